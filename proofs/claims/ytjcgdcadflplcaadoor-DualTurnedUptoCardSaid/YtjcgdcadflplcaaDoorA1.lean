/- The abstract machine, part 1: what it is, and that what it comes to is what the program comes to. -/
import Derived.RangeFuncLeaves
import Derived.Laws.Entries
import Derived.Below
import Derived.Orders
import Derived.Laws.Cells
import Derived.Laws.CopyRow
import Derived.Laws.BitsLemmas
set_option linter.unusedVariables false
set_option linter.unusedSimpArgs false
set_option linter.unusedSectionVars false
/- AM, first text: an abstract machine for a part of the translated language. Memory is a list of blocks that are numbered in the order in which they are made; `append` makes a new block whenever the old one's room is not known, and the old one is then dead. -/
namespace Go.Proofs.YtjcgdcadflplcaaDoor.AM
open Go
abbrev Ad:=Nat × Nat
inductive Cell where
 |bool (b:Bool)
 |int (k:IntKind) (n:Int)
 |str (s:ByteArray)
 |ptr (a:Option Ad)
 |sl (a:Option Ad) (n c:Nat) (opn:Bool)
 |map (r:Option Nat)
 |fn (f:FuncId) (first caps:List Ad)
 |yld (l:Nat)
 |nilFn
 |nilIface
 deriving DecidableEq
inductive Pc where
 |c (x:Cell)
 |agg (l:List Cell)
 deriving DecidableEq
inductive V where
 |c (x:Cell)
 |agg (l:List Cell)
 |tup (l:List Pc)
 deriving DecidableEq
abbrev V.undef:V:=.tup []
def Pc.v:Pc→V
 |.c x=>.c x
 |.agg l=>.agg l
def V.pc:V→Option Pc
 |.c x=>some (.c x)
 |.agg l=>some (.agg l)
 |.tup _=>none
def V.cells:V→Option (List Cell)
 |.c x=>some [x]
 |.agg l=>some l
 |.tup _=>none
inductive X where
 |t (i:Nat)
 |k (v:V)
inductive EK where
 |bool|ptr|sl|map|fn
 deriving DecidableEq
inductive KK where
 |int|bool|str
 deriving DecidableEq
inductive IOp where
 |mv (x:X)
 |pick (c a b:X)
 |bad
 |box (T:TypeId) (x:X)
 |new (T:TypeId) (z:V)
 |build (z:List Cell) (ps:List (Nat × Nat × X))
 |bsl (T:TypeId) (len:Nat) (z:List Cell) (ps:List (Nat × Nat × X))
 |ld (n:Option Nat) (x:X)
 |st (n:Nat) (a x:X)
 |nilck (x:X)
 |bin (op:BinOp) (x y:X)
 |eq (k:EK) (neg:Bool) (x y:X)
 |eqagg (L:List KK) (neg:Bool) (x y:X)
 |un (op:UnOp) (x:X)
 |cv (k:IntKind) (x:X)
 |b2s (x:X)
 |s2b (T:TypeId) (x:X)
 |mkfn (f:FuncId) (first caps:List X)
 |mkmap (h:Option X)
 |ins (kk:KK) (m k v:X)
 |look (kk:KK) (z:V) (ok:Bool) (m k:X)
 |mksl (T:TypeId) (sz by_:Nat) (z:List Cell) (len cap:X)
 |slS (sz:Nat) (x:X) (lo hi mx:Option X)
 |slA (n sz:Nat) (x:X) (lo hi mx:Option X)
 |slT (x:X) (lo hi:Option X)
 |fa (off:Nat) (x:X)
 |fld (off:Nat) (n:Option Nat) (x:X)
 |iaS (sz:Nat) (x i:X)
 |iaA (len sz:Nat) (x i:X)
 |ix (len sz:Nat) (n:Option Nat) (x i:X)
 |ixT (x i:X)
 |ext (x:X) (i:Nat)
 |call (f:X) (args:List X)
 |len (str:Bool) (x:X)
 |lenK (n:Nat)
 |app (T:TypeId) (sz by_:Nat) (s x:X)
 |appT (T:TypeId) (s x:X)
 |cpy (sz:Nat) (d s:X)
 |clr (sz:Nat) (z:List Cell) (x:X)
 |mx (x:X) (ys:List X)
 |mn (x:X) (ys:List X)
 |same (n:Option (Option Nat)) (a x:X)
def IOp.xs:IOp→List X
 |.mv x|.box _ x|.ld _ x|.nilck x|.un _ x|.cv _ x|.b2s x|.s2b _ x|.fa _ x|.fld _ _ x|.ext x _|.len _ x|.clr _ _ x=>[x]
 |.pick a b c=>[a,b,c]
 |.bad|.new .. | .lenK _=>[]
 |.build _ ps|.bsl _ _ _ ps=>ps.map fun p=>p.2.2
 |.st _ a x|.bin _ a x|.eq _ _ a x|.eqagg _ _ a x|.iaS _ a x|.iaA _ _ a x|.ix _ _ _ a x|.ixT a x|.app _ _ _ a x|.appT _ a x|.cpy _ a x=>[a,x]
 |.mkfn _ a b=>a++b
 |.mkmap h=>h.toList
 |.ins _ a b c=>[a,b,c]
 |.look _ _ _ a b=>[a,b]
 |.mksl _ _ _ _ a b=>[a,b]
 |.slS _ x a b c|.slA _ _ x a b c=>x :: (a.toList++b.toList++c.toList)
 |.slT x a b=>x :: (a.toList++b.toList)
 |.call f l=>f :: l
 |.mx x l|.mn x l=>x :: l
 |.same _ a x=>[a,x]
structure IOper where
 dst:Option Nat
 op:IOp
 guard:Option (Nat × Bool)
inductive IC where
 |skip
 |ops (l:List IOper)
 |seq (x y:IC)
 |cond (c:X) (x y:IC)
 |block (id:Nat) (b:IC)
 |loop (b:IC)
 |rangeF (f:X) (ps:List Nat) (assign body:IC)
 |exit (id:Nat)
 |ret
 |bad
inductive Ex where
 |normal
 |exit (id:Nat)
 |ret
 deriving DecidableEq
inductive LSt where
 |ready|busy|done|exhausted
 deriving DecidableEq
structure LRec where
 t:List V
 ps:List Nat
 assign:IC
 body:IC
 defers:Nat
inductive Blk where
 |cells (cs:List Cell) (ro:Bool) (gr:Option Nat)
 |dead
 |map (es:List (Cell × V))
 |loop (st:LSt) (pend:Option Ex) (r:LRec)
 |defd
 |shut
abbrev Heap:=List Blk
def Heap.cells (H:Heap) (b:Nat):Option (List Cell):=
 match H[b]? with
 |some (.cells cs _ _)=>some cs
 |_=>none
def sub (cs:List Cell) (o n:Nat):Option (List Cell):=if o+n≤cs.length then some ((cs.drop o).take n) else none
def Heap.ldn (H:Heap) (a:Ad) (n:Nat):Option (List Cell):=(H.cells a.1).bind fun cs=>sub cs a.2 n
def Heap.ld (H:Heap) (a:Ad):Option Cell:=(H.cells a.1).bind fun cs=>cs[a.2]?
def Heap.rd (H:Heap) (a:Ad):Option Nat→Option V
 |none=>(H.ld a).map .c
 |some n=>(H.ldn a n).map .agg
def prd (cs:List Cell) (o:Nat):Option Nat→Option V
 |none=>(cs[o]?).map .c
 |some n=>(sub cs o n).map .agg
def put (cs:List Cell):Nat→List Cell→List Cell
 |_,[]=>cs
 |o,x :: xs=>put (cs.set o x) (o+1) xs
def Heap.st (H:Heap) (a:Ad) (xs:List Cell):Option Heap:=
 match H[a.1]? with
 |some (.cells cs false gr)=>if a.2+xs.length≤cs.length then some (H.set a.1 (.cells (put cs a.2 xs) false gr)) else none
 |_=>none
def X.ev (t:List V):X→V
 |.t i=>(t[i]?).getD .undef
 |.k v=>v
def putT (t:List V) (d:Option Nat) (v:V):List V:=
 match d with
 |some d=>t.set d v
 |none=>t
def fillB (cs:List Cell):List (Nat × Nat × V)→Option (List Cell)
 |[]=>some cs
 |(o,n,v) :: r=>
  match v.cells with
  |some xs=>if xs.length=n∧o+n≤cs.length then fillB (put cs o xs) r else none
  |none=>none
def binI (op:BinOp) (k:IntKind) (x:Int) (k':IntKind) (y:Int):Option Cell:=
 match op with
 |.shl=>if y<0 then none else some (.int k (k.wrap (x * 2 ^ (min y.toNat k.bits))))
 |.shr=>if y<0 then none else some (.int k (x.fdiv (2 ^ (min y.toNat k.bits))))
 |op=>if k≠k' then none else
  match op with
  |.add=>some (.int k (k.wrap (x+y)))
  |.sub=>some (.int k (k.wrap (x-y)))
  |.mul=>some (.int k (k.wrap (x * y)))
  |.quo=>if y=0 then none else some (.int k (k.wrap (x.tdiv y)))
  |.rem=>if y=0 then none else some (.int k (x.tmod y))
  |.and=>some (.int k (bits .and k x y))
  |.or=>some (.int k (bits .or k x y))
  |.xor=>some (.int k (bits .xor k x y))
  |.andNot=>some (.int k (bits .andNot k x y))
  |.eql=>some (.bool (x == y))
  |.neq=>some (.bool (x != y))
  |.lss=>some (.bool (decide (x<y)))
  |.leq=>some (.bool (decide (x≤y)))
  |.gtr=>some (.bool (decide (x > y)))
  |.geq=>some (.bool (decide (x≥y)))
  |_=>none
def binC (op:BinOp):Cell→Cell→Option Cell
 |.int k x,.int k' y=>binI op k x k' y
 |.str x,.str y=>
  match op with
  |.eql=>some (.bool (x.toList == y.toList))
  |.neq=>some (.bool !(x.toList == y.toList))
  |.add=>if ((x.size+y.size:Nat):Int) > IntKind.i64.max then none else some (.str (x++y))
  |_=>none
 |_,_=>none
def eqC (k:EK) (x y:Cell):Option Bool:=
 match k,x,y with
 |.bool,.bool a,.bool b=>some (a == b)
 |.ptr,.ptr none,.ptr b=>some b.isNone
 |.ptr,.ptr _,.ptr none=>some false
 |.sl,.sl none _ _ _,.sl b _ _ _=>some b.isNone
 |.sl,.sl _ _ _ _,.sl none _ _ _=>some false
 |.map,.map none,.map b=>some b.isNone
 |.map,.map _,.map none=>some false
 |.fn,.nilFn,.nilFn=>some true
 |.fn,.nilFn,.fn ..=>some false
 |.fn,.fn ..,.nilFn=>some false
 |_,_,_=>none
def eqCs:List KK→List Cell→List Cell→Option Bool
 |[],[],[]=>some true
 |.int :: L,.int k a :: x,.int k' b :: y=>if k=k' then if a == b then eqCs L x y else some false else none
 |.bool :: L,.bool a :: x,.bool b :: y=>if a == b then eqCs L x y else some false
 |.str :: L,.str a :: x,.str b :: y=>if a == b then eqCs L x y else some false
 |_,_,_=>none
def unC (op:UnOp):Cell→Option Cell
 |.int k n=>
  match op with
  |.neg=>some (.int k (k.wrap (0-n)))
  |.xor=>some (.int k (bits .xor k (if k.signed then -1 else k.max) n))
  |_=>none
 |.bool b=>
  match op with
  |.not=>some (.bool !b)
  |_=>none
 |_=>none
def bytesOf:List Cell→Option (List UInt8)
 |[]=>some []
 |.int .u8 n :: r=>(bytesOf r).map (n.toNat.toUInt8 :: ·)
 |_=>none
def byteCells (s:ByteArray):List Cell:=s.data.toList.map fun b=>.int .u8 b.toNat
def KK.ok:KK→Cell→Bool
 |.int,.int ..=>true
 |.bool,.bool _=>true
 |.str,.str _=>true
 |_,_=>false
def findE (k:Cell):List (Cell × V)→Option (Option V)
 |[]=>some none
 |(k',v) :: r=>
  match k,k' with
  |.int i a,.int j b=>if i=j then if a == b then some (some v) else findE k r else none
  |.str a,.str b=>if a == b then some (some v) else findE k r
  |.bool a,.bool b=>if a == b then some (some v) else findE k r
  |_,_=>none
def asI:V→Option Int
 |.c (.int _ n)=>some n
 |_=>none
def bnd (v:Option V) (dflt top:Nat):Option Nat:=
 match v with
 |none=>some dflt
 |some v=>(asI v).bind fun i=>if 0≤i∧i≤top then some i.toNat else none
def bnds (n c:Nat) (lo hi mx:Option V):Option (Nat × Nat × Nat):=
 match hi,mx with
 |none,some _=>none
 |_,_=>(bnd mx c c).bind fun m=>(bnd hi n m).bind fun h=>(bnd lo 0 h).map fun l=>(l,h,m)
def addA (a:Ad) (n:Nat):Ad:=(a.1,a.2+n)
def adOf:V→Option Ad
 |.c (.ptr (some a))=>some a
 |_=>none
def adsOf (l:List V):Option (List Ad):=l.mapM adOf
def b2sO (H:Heap):V→Option V
 |.c (.sl none 0 _ _)=>some (.c (.str ⟨#[]⟩))
 |.c (.sl (some a) n _ _)=>((H.ldn a n).bind bytesOf).map fun l=>.c (.str ⟨l.toArray⟩)
 |_=>none
def rdK (H:Heap):Option (Option Nat)→V→Option V
 |some n,v=>(adOf v).bind fun a=>H.rd a n
 |none,v=>b2sO H v
inductive AN where
 |v (x:V)
 |call (f:FuncId) (args:List V)
 |yld (l:Nat) (args:List V)
abbrev pV (a:Ad):V:=V.c (.ptr (some a))
def most:Nat:=2 ^ 40
def grows (l:List Cell) (n:Nat):List Cell:=(List.replicate n l).flatten
def appH (H:Heap) (sz by_:Nat) (a:Option Ad) (n c:Nat) (opn:Bool) (k:Nat) (new:List Cell):Option (AN × Heap):=
 if n+k≤c then
  match a with
  |none=>if k=0 then some (.v (.c (.sl none n c opn)),H) else none
  |some a=>if k=0 then some (.v (.c (.sl (some a) n c opn)),H) else (H.st (addA a (n * sz)) new).map fun H'=>(.v (.c (.sl (some a) (n+k) c opn)),H')
 else if (n+k) * (by_+1) > most then none
 else
  match a with
  |none=>if n=0∧c=0∧opn=false then some (.v (.c (.sl (some (H.length,0)) k k true)),H++[.cells new false (some sz)]) else none
  |some a=>
   (H.ldn a (n * sz)).bind fun old=>
    if opn then
     match H[a.1]? with
     |some (.cells cs false (some sz'))=>
      if sz'=sz∧a.2+c * sz=cs.length then
       some (.v (.c (.sl (some (H.length,0)) (n+k) (n+k) true)),(H.set a.1 .dead)++[.cells (old++new) false (some sz)])
      else none
     |_=>none
    else some (.v (.c (.sl (some (H.length,0)) (n+k) (n+k) true)),H++[.cells (old++new) false (some sz)])
def maxI (x:V) (ys:List V) (f:Int→Int→Int):Option V:=
 match x with
 |.c (.int k n)=>(ys.foldlM (fun(m:Int) (y:V)=>match y with|.c (.int k' b)=>if k=k' then some (f m b) else none|_=>none) n).map fun m=>.c (.int k m)
 |_=>none
def aop (ρ:X→V):IOp→Heap→Option (AN × Heap)
 |.mv x,H=>some (.v (ρ x),H)
 |.pick c a b,H=>
  match ρ c with
  |.c (.bool t)=>some (.v (if t then ρ a else ρ b),H)
  |_=>none
 |.bad,_=>none
 |.box _ x,H=>(ρ x).cells.map fun cs=>(.v (.c (.ptr (some (H.length,0)))),H++[.cells cs false none])
 |.new _ z,H=>z.cells.map fun cs=>(.v (.c (.ptr (some (H.length,0)))),H++[.cells cs false none])
 |.build z ps,H=>(fillB z (ps.map fun p=>(p.1,p.2.1,ρ p.2.2))).map fun cs=>(.v (.agg cs),H)
 |.bsl _ len z ps,H=>(fillB z (ps.map fun p=>(p.1,p.2.1,ρ p.2.2))).map fun cs=>(.v (.c (.sl (some (H.length,0)) len len false)),H++[.cells cs false none])
 |.ld n x,H=>(adOf (ρ x)).bind fun a=>(H.rd a n).map fun v=>(.v v,H)
 |.st n a x,H=>(adOf (ρ a)).bind fun a=>(ρ x).cells.bind fun cs=>if cs.length=n then (H.st a cs).map fun H'=>(.v .undef,H') else none
 |.nilck x,H=>
  match ρ x with
  |.c (.ptr (some a))=>some (.v (.c (.ptr (some a))),H)
  |.c (.fn f g h)=>some (.v (.c (.fn f g h)),H)
  |_=>none
 |.bin op x y,H=>
  match ρ x,ρ y with
  |.c x,.c y=>(binC op x y).map fun c=>(.v (.c c),H)
  |_,_=>none
 |.eq k neg x y,H=>
  match ρ x,ρ y with
  |.c x,.c y=>(eqC k x y).map fun b=>(.v (.c (.bool (b != neg))),H)
  |_,_=>none
 |.eqagg L neg x y,H=>
  match ρ x,ρ y with
  |.agg x,.agg y=>if x.length=L.length∧y.length=L.length then (eqCs L x y).map fun b=>(.v (.c (.bool (b != neg))),H) else none
  |_,_=>none
 |.un op x,H=>
  match ρ x with
  |.c x=>(unC op x).map fun c=>(.v (.c c),H)
  |_=>none
 |.cv k x,H=>
  match ρ x with
  |.c (.int _ n)=>some (.v (.c (.int k (k.wrap n))),H)
  |_=>none
 |.b2s x,H=>(b2sO H (ρ x)).map fun v=>(.v v,H)
 |.s2b _ x,H=>
  match ρ x with
  |.c (.str s)=>some (.v (.c (.sl (some (H.length,0)) s.size s.size true)),H++[.cells (byteCells s) false (some 1)])
  |_=>none
 |.mkfn f first caps,H=>(adsOf (first.map ρ)).bind fun fs=>(adsOf (caps.map ρ)).map fun cs=>(.v (.c (.fn f fs cs)),H)
 |.mkmap h,H=>
  match h with
  |none=>some (.v (.c (.map (some H.length))),H++[.map []])
  |some x=>(asI (ρ x)).map fun _=>(.v (.c (.map (some H.length))),H++[.map []])
 |.ins kk m k v,H=>
  match ρ m,ρ k with
  |.c (.map (some r)),.c k=>
   match H[r]? with
   |some (.map es)=>
    if kk.ok k then
     match findE k es with
     |some none=>some (.v .undef,H.set r (.map (es++[(k,ρ v)])))
     |_=>none
    else none
   |_=>none
  |_,_=>none
 |.look kk z ok m k,H=>
  match ρ m,ρ k with
  |.c (.map (some r)),.c k=>
   match H[r]? with
   |some (.map es)=>
    if kk.ok k then
     (findE k es).bind fun e=>
      if ok then ((e.getD z).pc).map fun p=>(.v (.tup [p,.c (.bool e.isSome)]),H) else some (.v (e.getD z),H)
    else none
   |_=>none
  |_,_=>none
 |.mksl _ sz by_ z len cap,H=>(asI (ρ len)).bind fun l=>(asI (ρ cap)).bind fun c=>
  if 0≤l∧l≤c∧c * (by_+1)≤most∧(z.length=sz∨c=0) then
   some (.v (.c (.sl (some (H.length,0)) l.toNat c.toNat false)),H++[.cells (grows z c.toNat) false none])
  else none
 |.slS sz x lo hi mx,H=>
  match ρ x with
  |.c (.sl a n c opn)=>(bnds n c (lo.map ρ) (hi.map ρ) (mx.map ρ)).bind fun(l,h,m)=>
   some (.v (.c (.sl (if m=l∧(opn && mx.isNone)=false then a else a.map (addA · (l * sz))) (h-l) (m-l) (opn && mx.isNone))),H)
  |_=>none
 |.slA n sz x lo hi mx,H=>
  match ρ x with
  |.c (.ptr (some a))=>(bnds n n (lo.map ρ) (hi.map ρ) (mx.map ρ)).map fun(l,h,m)=>
   (.v (.c (.sl (some (if m=l then a else addA a (l * sz))) (h-l) (m-l) false)),H)
  |_=>none
 |.slT x lo hi,H=>
  match ρ x with
  |.c (.str s)=>(bnds s.size s.size (lo.map ρ) (hi.map ρ) none).map fun(l,h,_)=>(.v (.c (.str (s.extract l h))),H)
  |_=>none
 |.fa off x,H=>(adOf (ρ x)).map fun a=>(.v (.c (.ptr (some (addA a off)))),H)
 |.fld off n x,H=>
  match ρ x with
  |.agg cs=>(prd cs off n).map fun v=>(.v v,H)
  |_=>none
 |.iaS sz x i,H=>
  match ρ x with
  |.c (.sl (some a) n _ _)=>(asI (ρ i)).bind fun i=>if 0≤i∧i<n then some (.v (.c (.ptr (some (addA a (i.toNat * sz))))),H) else none
  |_=>none
 |.iaA len sz x i,H=>(adOf (ρ x)).bind fun a=>(asI (ρ i)).bind fun i=>if 0≤i∧i<len then some (.v (.c (.ptr (some (addA a (i.toNat * sz))))),H) else none
 |.ix len sz n x i,H=>
  match ρ x with
  |.agg cs=>(asI (ρ i)).bind fun i=>
   if 0≤i∧i<len then (prd cs (i.toNat * sz) n).map fun v=>(.v v,H) else none
  |_=>none
 |.ixT x i,H=>
  match ρ x with
  |.c (.str s)=>(asI (ρ i)).bind fun i=>if 0≤i then (s.data[i.toNat]?).map fun b=>(.v (.c (.int .u8 b.toNat)),H) else none
  |_=>none
 |.ext x i,H=>
  match ρ x with
  |.tup l=>(l[i]?).map fun p=>(.v p.v,H)
  |_=>none
 |.call f args,H=>
  match ρ f with
  |.c (.fn g first caps)=>some (.call g (first.map pV++args.map ρ++caps.map pV),H)
  |.c (.yld l)=>some (.yld l (args.map ρ),H)
  |_=>none
 |.len str x,H=>
  match str,ρ x with
  |true,.c (.str s)=>some (.v (.c (.int .i64 s.size)),H)
  |false,.c (.sl _ n _ _)=>some (.v (.c (.int .i64 n)),H)
  |_,_=>none
 |.lenK n,H=>some (.v (.c (.int .i64 n)),H)
 |.app _ sz by_ s x,H=>
  match ρ s,ρ x with
  |.c (.sl a n c opn),.c (.sl b k _ _)=>
   match b with
   |none=>if k=0 then appH H sz by_ a n c opn 0 [] else none
   |some b=>(H.ldn b (k * sz)).bind fun new=>appH H sz by_ a n c opn k new
  |_,_=>none
 |.appT _ s x,H=>
  match ρ s,ρ x with
  |.c (.sl a n c opn),.c (.str t)=>appH H 1 1 a n c opn t.size (byteCells t)
  |_,_=>none
 |.cpy sz d s,H=>
  match ρ d,ρ s with
  |.c (.sl a n _ _),.c (.sl b k _ _)=>
   let j:=min k n
   if j=0 then some (.v (.c (.int .i64 0)),H) else
   match a,b with
   |some a,some b=>(H.ldn b (j * sz)).bind fun new=>(H.st a new).map fun H'=>(.v (.c (.int .i64 j)),H')
   |_,_=>none
  |_,_=>none
 |.clr sz z x,H=>
  match ρ x with
  |.c (.sl a n _ _)=>
   if n=0 then some (.v .undef,H) else
   match a with
   |some a=>if z.length=sz then (H.st a (grows z n)).map fun H'=>(.v .undef,H') else none
   |none=>none
  |_=>none
 |.mx x ys,H=>(maxI (ρ x) (ys.map ρ) fun a b=>if b > a then b else a).map fun v=>(.v v,H)
 |.mn x ys,H=>(maxI (ρ x) (ys.map ρ) fun a b=>if b<a then b else a).map fun v=>(.v v,H)
 |.same n a x,H=>(rdK H n (ρ a)).bind fun v=>if v=ρ x then some (.v .undef,H) else none
def IOper.slots (o:IOper):List Nat:=(o.op.xs.filterMap fun|.t i=>some i|.k _=>none)++(match o.guard with|some (j,_)=>[j]|none=>[])
def IOp.pure:IOp→Bool
 |.mv _|.pick .. | .build .. | .nilck _|.bin .. | .eq .. | .eqagg .. | .un .. | .cv .. | .mkfn .. | .slS .. | .slA .. | .slT .. | .fa .. | .fld .. | .iaS .. | .iaA .. | .ix .. | .ixT .. | .ext .. | .len .. | .lenK _|.mx .. | .mn ..=>true
 |_=>false
def IOp.reads:IOp→Bool
 |.ld .. | .b2s _|.look .. | .same ..=>true
 |o=>o.pure
structure IFn where
 ntmps:Nat
 body:IC
 res:List (Nat × Option (Option Nat))     -- a slot; a slot that holds a variable's address, and how it is read
structure St where
 t:List V
 ds:List Nat
 H:Heap
def wanted (t:List V):Option (Nat × Bool)→Bool
 |none=>true
 |some (j,b)=>match t[j]? with
  |some (.c (.bool b'))=>b' == b
  |_=>false
def resV (t:List V) (H:Heap) (r:Nat × Option (Option Nat)):Option V:=
 match r.2 with
 |none=>some ((t[r.1]?).getD .undef)
 |some n=>(adOf ((t[r.1]?).getD .undef)).bind fun a=>H.rd a n
def resOf (t:List V) (H:Heap) (rs:List (Nat × Option (Option Nat))):Option V:=
 (rs.mapM (resV t H)).bind fun
  |[v]=>some v
  |vs=>(vs.mapM V.pc).map .tup
def shutAll:List Nat→Heap→Option Heap
 |[],H=>some H
 |D :: ds,H=>
  match H[D]? with
  |some .defd=>shutAll ds (H.set D .shut)
  |_=>none
inductive Fun where
 |code (f:IFn)
 |ext (f:List V→Heap→Option (V × Heap))
abbrev Rec:=Option Nat→IC→St→Option (Ex × St)
def callR (F:FuncId→Option Fun) (rec:Rec) (f:FuncId) (args:List V) (H:Heap):Option (V × Heap):=
 match F f with
 |some (.code fn)=>
  (rec none fn.body ⟨args++List.replicate (fn.ntmps-args.length) .undef,[],H⟩).bind fun r=>
   match r.1 with
   |.exit _=>none
   |_=>(shutAll r.2.ds r.2.H).bind fun H'=>(resOf r.2.t H' fn.res).map fun v=>(v,H')
 |some (.ext g)=>g args H
 |none=>none
def roundR (rec:Rec) (l:Nat) (args:List V) (H:Heap):Option (V × Heap):=
 match H[l]? with
 |some (.loop .ready pd r)=>
  if args.length=r.ps.length then
   (rec (some l) r.assign ⟨(r.ps.zip args).foldl (fun t p=>t.set p.1 p.2) r.t,[],H⟩).bind fun q=>
    match q.1,q.2.H[l]? with
    |.normal,some (.loop .ready pd r₁)=>
     (rec (some l) r.body ⟨q.2.t,q.2.ds,q.2.H.set l (.loop .busy pd r₁)⟩).bind fun q=>
      match q.2.H[l]? with
      |some (.loop .busy _ r₂)=>
       match q.1 with
       |.normal=>some (.c (.bool true),q.2.H.set l (.loop .ready none r₂))
       |e=>some (.c (.bool false),q.2.H.set l (.loop .done (some e) r₂))
      |_=>none
    |_,_=>none
  else none
 |_=>none
def opsR (F:FuncId→Option Fun) (rec:Rec):List IOper→List V→Heap→Option (List V × Heap)
 |[],t,H=>some (t,H)
 |o :: r,t,H=>
  if wanted t o.guard then
   (aop (X.ev t) o.op H).bind fun
    |(.v x,H')=>opsR F rec r (putT t o.dst x) H'
    |(.call f args,H')=>(callR F rec f args H').bind fun q=>opsR F rec r (putT t o.dst q.1) q.2
    |(.yld l args,H')=>(roundR rec l args H').bind fun q=>opsR F rec r (putT t o.dst q.1) q.2
  else opsR F rec r (putT t o.dst .undef) H
def exOf:Ex→IC
 |.normal=>.skip
 |.exit i=>.exit i
 |.ret=>.ret
def stepR (F:FuncId→Option Fun) (rec:Rec):Rec:=fun rd c s=>
 match c with
 |.skip=>some (.normal,s)
 |.ops l=>(opsR F rec l s.t s.H).map fun q=>(.normal,⟨q.1,s.ds,q.2⟩)
 |.seq x y=>(rec rd x s).bind fun q=>
  match q.1 with
  |.normal=>rec rd y q.2
  |e=>some (e,q.2)
 |.cond c x y=>
  match c.ev s.t with
  |.c (.bool b)=>rec rd (if b then x else y) s
  |_=>none
 |.block id b=>(rec rd b s).map fun q=>(if q.1=.exit id then .normal else q.1,q.2)
 |.loop b=>(rec rd b s).bind fun q=>
  match q.1 with
  |.normal=>rec rd (.loop b) q.2
  |e=>some (e,q.2)
 |.exit id=>some (.exit id,s)
 |.ret=>some (.ret,s)
 |.bad=>none
 |.rangeF f ps assign body=>
  match rd with
  |none=>
   let D:=s.H.length
   let H:=s.H++[.defd,.loop .ready none ⟨s.t,ps,assign,body,D⟩]
   runRange F rec rd f s.t (D :: s.ds) (D+1) H
  |some l₀=>
   match s.H[l₀]? with
   |some (.loop _ _ r₀)=>
    let L:=s.H.length
    runRange F rec rd f s.t s.ds L (s.H++[.loop .ready none ⟨s.t,ps,assign,body,r₀.defers⟩])
   |_=>none
 where
 runRange (F:FuncId→Option Fun) (rec:Rec) (rd:Option Nat) (f:X) (t:List V) (ds:List Nat) (l:Nat) (H:Heap):Option (Ex × St):=
  match f.ev t with
  |.c (.fn g first caps)=>
   (callR F rec g (first.map pV++[V.c (.yld l)]++caps.map pV) H).bind fun q=>
    match q.2[l]? with
    |some (.loop .busy _ _)=>none
    |some (.loop _ pd r)=>
     match pd with
     |none=>some (.normal,⟨t,ds,q.2.set l (.loop .exhausted pd r)⟩)
     |some e=>rec rd (exOf e) ⟨t,ds,q.2.set l (.loop .exhausted pd r)⟩
    |_=>none
  |_=>none
def run (F:FuncId→Option Fun):Nat→Rec
 |0=>fun _ _ _=>none
 |k+1=>stepR F (run F k)
end Go.Proofs.YtjcgdcadflplcaaDoor.AM
/- AM, second text: how an abstract state stands to the machine's. -/
namespace Go.Proofs.YtjcgdcadflplcaaDoor.AM
open Go Go.RowKit
structure Loc where
 blk:Nat
 off:Nat
 extra:Nat
abbrev Inj:=Nat→Loc
def adr (m:Inj) (a:Ad):Addr:=⟨(m a.1).blk,(m a.1).off+a.2,none⟩
def ptrV (m:Inj) (a:Ad):Value:=.pointer (some (adr m a))
def Cell.R (m:Inj) (n:Nat):Cell→Value→Prop
 |.bool b,v=>v=.bool b
 |.int k i,v=>v=.int k i
 |.str s,v=>v=.string s
 |.ptr none,v=>v=.pointer none
 |.ptr (some a),v=>a.1<n∧v=ptrV m a
 |.sl none k c o,v=>k=0∧c=0∧o=false∧v=.slice none 0 0
 |.sl (some a) k c o,v=>a.1<n∧k≤c∧∃A c',v=.slice (some A) k c'∧(c'=if o then c+(m a.1).extra else c)∧(A=adr m a∨c'=0)
 |.map none,v=>v=.map none
 |.map (some r),v=>r<n∧v=.map (some (m r).blk)
 |.fn f fs cs,v=>(∀a∈fs,a.1<n)∧(∀a∈cs,a.1<n)∧v=.func (.func f) (fs.map (ptrV m)).toArray (cs.map (ptrV m)).toArray
 |.yld l,v=>l<n∧v=.func (.yield (m l).blk) #[] #[]
 |.nilFn,v=>v=.nilFunc
 |.nilIface,v=>v=.nilIface
inductive All2 {α β:Type} (R:α→β→Prop):List α→List β→Prop
 |nil:All2 R [] []
 |cons {a b l r} (h:R a b) (t:All2 R l r):All2 R (a :: l) (b :: r)
section
variable {α β:Type} {R S:α→β→Prop}
theorem All2.imp {l:List α} {r:List β} (h:All2 R l r) (hi:∀a b,R a b→S a b):All2 S l r:=by
 induction h with
 |nil=>exact .nil
 |cons h _ ih=>exact .cons (hi _ _ h) ih
theorem All2.length {l:List α} {r:List β} (h:All2 R l r):l.length=r.length:=by
 induction h with
 |nil=>rfl
 |cons _ _ ih=>simp[ih]
theorem All2.append {l l':List α} {r r':List β} (h:All2 R l r) (h':All2 R l' r'):All2 R (l++l') (r++r'):=by
 induction h with
 |nil=>exact h'
 |cons h _ ih=>exact .cons h ih
theorem All2.get {l:List α} {r:List β} (h:All2 R l r):∀{i:Nat} {a:α},l[i]?=some a→∃b,r[i]?=some b∧R a b:=by
 induction h with
 |nil=>intro i a e;simp at e
 |cons h _ ih=>
  intro i a e
  cases i with
  |zero=>simp at e;subst e;exact⟨_,by simp,h⟩
  |succ i=>simp at e;obtain⟨b,hb,hr⟩:=ih e;exact⟨b,by simpa using hb,hr⟩
theorem All2.get_none {l:List α} {r:List β} (h:All2 R l r) {i:Nat} (e:l[i]?=none):r[i]?=none:=by
 have:=h.length
 rw[List.getElem?_eq_none_iff] at e ⊢
 omega
theorem All2.of_get {l:List α} {r:List β} (hl:l.length=r.length) (h:∀(i:Nat) (a:α),l[i]?=some a→∃b,r[i]?=some b∧R a b):All2 R l r:=by
 induction l generalizing r with
 |nil=>cases r with|nil=>exact .nil|cons=>simp at hl
 |cons a l ih=>
  cases r with
  |nil=>simp at hl
  |cons b r=>
   obtain⟨b',hb,hr⟩:=h 0 a (by simp)
   simp at hb;subst hb
   exact .cons hr (ih (by simpa using hl) fun i a e=>by
    obtain⟨b',hb,hr⟩:=h (i+1) a (by simpa using e)
    exact⟨b',by simpa using hb,hr⟩)
theorem All2.set {l:List α} {r:List β} (h:All2 R l r) {i:Nat} {a:α} {b:β} (hr:R a b):All2 R (l.set i a) (r.set i b):=by
 induction h generalizing i with
 |nil=>exact .nil
 |cons h t ih=>
  cases i with
  |zero=>exact .cons hr t
  |succ i=>exact .cons h (ih)
theorem All2.take {l:List α} {r:List β} (h:All2 R l r):∀(k:Nat),All2 R (l.take k) (r.take k):=by
 induction h with
 |nil=>intro k;simp;exact .nil
 |cons h _ ih=>intro k;cases k with|zero=>exact .nil|succ k=>exact .cons h (ih k)
theorem All2.drop {l:List α} {r:List β} (h:All2 R l r):∀(k:Nat),All2 R (l.drop k) (r.drop k):=by
 induction h with
 |nil=>intro k;simp;exact .nil
 |cons h t ih=>intro k;cases k with|zero=>exact .cons h t|succ k=>exact ih k
theorem All2.replicate {a:α} {b:β} (h:R a b):∀k,All2 R (List.replicate k a) (List.replicate k b)
 |0=>.nil
 |k+1=>.cons h (All2.replicate h k)
theorem All2.map {γ δ:Type} {T:γ→δ→Prop} {f:γ→α} {g:δ→β} {l:List γ} {r:List δ} (h:All2 T l r) (hf:∀x y,T x y→R (f x) (g y)):All2 R (l.map f) (r.map g):=by
 induction h with
 |nil=>exact .nil
 |cons h _ ih=>exact .cons (hf _ _ h) ih
end
abbrev RL (m:Inj) (n:Nat):List Cell→List Value→Prop:=All2 (Cell.R m n)
def Pc.R (m:Inj) (n:Nat):Pc→Value→Prop
 |.c x,v=>x.R m n v
 |.agg l,v=>∃vs:Array Value,v=.agg vs∧RL m n l vs.toList
def V.R (m:Inj) (n:Nat):V→Value→Prop
 |.c x,v=>x.R m n v
 |.agg l,v=>∃vs:Array Value,v=.agg vs∧RL m n l vs.toList
 |.tup l,v=>∃vs:Array Value,v=.tuple vs∧All2 (Pc.R m n) l vs.toList
theorem Pc.R_v {m:Inj} {n:Nat} {p:Pc} {v:Value}:p.v.R m n v↔p.R m n v:=by cases p<;>rfl
theorem V.R_undef (m:Inj) (n:Nat):V.undef.R m n Go.undef:=⟨#[],rfl,.nil⟩
def Later (m:Inj) (n:Nat) (m':Inj) (n':Nat):Prop:=n≤n'∧∀b,b<n→m' b=m b
theorem Later.refl (m:Inj) (n:Nat):Later m n m n:=⟨Nat.le_refl _,fun _ _=>rfl⟩
theorem Later.trans {m m' m'':Inj} {n n' n'':Nat} (h:Later m n m' n') (h':Later m' n' m'' n''):Later m n m'' n'':=
 ⟨Nat.le_trans h.1 h'.1,fun b hb=>(h'.2 b (Nat.lt_of_lt_of_le hb h.1)).trans (h.2 b hb)⟩
section
variable {m m':Inj} {n n':Nat}
theorem Later.adr (h:Later m n m' n') {a:Ad} (ha:a.1<n):AM.adr m' a=AM.adr m a:=by simp[AM.adr,h.2 _ ha]
theorem Later.ptrV (h:Later m n m' n') {a:Ad} (ha:a.1<n):AM.ptrV m' a=AM.ptrV m a:=by simp[AM.ptrV,h.adr ha]
theorem Later.ptrs (h:Later m n m' n') {l:List Ad} (ha:∀a∈l,a.1<n):l.map (AM.ptrV m')=l.map (AM.ptrV m):=
 List.map_congr_left fun a hm=>h.ptrV (ha a hm)
theorem Cell.R.later {c:Cell} {v:Value} (hR:c.R m n v) (h:Later m n m' n'):c.R m' n' v:=by
 cases c with
 |ptr a=>
  cases a with
  |none=>exact hR
  |some a=>exact⟨Nat.lt_of_lt_of_le hR.1 h.1,by rw[h.ptrV hR.1];exact hR.2⟩
 |sl a k c o=>
  cases a with
  |none=>exact hR
  |some a=>
   obtain⟨h1,h0,A,c',h2,h3,h4⟩:=hR
   exact⟨Nat.lt_of_lt_of_le h1 h.1,h0,A,c',h2,by rw[h.2 _ h1];exact h3,by rw[h.adr h1];exact h4⟩
 |map r=>
  cases r with
  |none=>exact hR
  |some r=>exact⟨Nat.lt_of_lt_of_le hR.1 h.1,by rw[h.2 _ hR.1];exact hR.2⟩
 |fn f fs cs=>
  exact⟨fun a ha=>Nat.lt_of_lt_of_le (hR.1 a ha) h.1,fun a ha=>Nat.lt_of_lt_of_le (hR.2.1 a ha) h.1,by rw[h.ptrs hR.1,h.ptrs hR.2.1];exact hR.2.2⟩
 |yld l=>exact⟨Nat.lt_of_lt_of_le hR.1 h.1,by rw[h.2 _ hR.1];exact hR.2⟩
 |_=>exact hR
theorem RL.later {l:List Cell} {vs:List Value} (hR:RL m n l vs) (h:Later m n m' n'):RL m' n' l vs:=hR.imp fun _ _ hr=>hr.later h
theorem Pc.R.later {c:Pc} {v:Value} (hR:c.R m n v) (h:Later m n m' n'):c.R m' n' v:=by
 cases c with
 |c x=>exact Cell.R.later (c:=x) hR h
 |agg l=>obtain⟨vs,e,hl⟩:=hR;exact⟨vs,e,hl.later h⟩
theorem V.R.later {c:V} {v:Value} (hR:c.R m n v) (h:Later m n m' n'):c.R m' n' v:=by
 cases c with
 |c x=>exact Cell.R.later (c:=x) hR h
 |agg l=>obtain⟨vs,e,hl⟩:=hR;exact⟨vs,e,hl.later h⟩
 |tup l=>obtain⟨vs,e,hl⟩:=hR;exact⟨vs,e,hl.imp fun _ _ hr=>hr.later h⟩
end
theorem Cell.R.oneCell' {m:Inj} {n:Nat} {c:Cell} {v:Value} (h:c.R m n v):v.oneCell'=true:=by
 cases c with
 |ptr a=>cases a with
  |none=>simp[Cell.R] at h;subst h;rfl
  |some a=>obtain⟨_,rfl⟩:=h;rfl
 |sl a k c o=>cases a with
  |none=>obtain⟨_,_,_,rfl⟩:=h;rfl
  |some a=>obtain⟨_,_,A,c',rfl,_⟩:=h;rfl
 |map r=>cases r with
  |none=>simp[Cell.R] at h;subst h;rfl
  |some r=>obtain⟨_,rfl⟩:=h;rfl
 |fn f fs cs=>obtain⟨_,_,rfl⟩:=h;rfl
 |yld l=>obtain⟨_,rfl⟩:=h;rfl
 |_=>simp[Cell.R] at h;subst h;rfl
theorem Cell.R.cells {m:Inj} {n:Nat} {c:Cell} {v:Value} (h:c.R m n v):v.cells=#[v]:=by
 have:=h.oneCell'
 cases v<;>simp_all [Value.oneCell',Value.cells]
theorem V.R.cells {m:Inj} {n:Nat} {c:V} {v:Value} {l:List Cell} (h:c.R m n v) (hc:c.cells=some l):RL m n l v.cells.toList:=by
 cases c with
 |c x=>
  simp[V.cells] at hc;subst hc
  have h':x.R m n v:=h
  rw[h'.cells];exact .cons h' .nil
 |agg l'=>
  simp[V.cells] at hc;subst hc
  obtain⟨vs,rfl,hl⟩:=h
  exact hl
 |tup l'=>simp[V.cells] at hc
def cellOf:Value→Option Cell
 |.bool b=>some (.bool b)
 |.int k n=>some (.int k n)
 |.string s=>some (.str s)
 |.pointer none=>some (.ptr none)
 |.slice none 0 0=>some (.sl none 0 0 false)
 |.map none=>some (.map none)
 |.nilFunc=>some .nilFn
 |.nilIface=>some .nilIface
 |_=>none
def cellsOf:List Value→Option (List Cell)
 |[]=>some []
 |v :: r=>(cellOf v).bind fun c=>(cellsOf r).map (c :: ·)
def vOf:Value→Option V
 |.agg cs=>(cellsOf cs.toList).map .agg
 |v=>(cellOf v).map .c
theorem cellOf_R {v:Value} {c:Cell} (h:cellOf v=some c) (m:Inj) (n:Nat):c.R m n v:=by
 unfold cellOf at h
 split at h<;>first|(cases h;rfl)|(cases h;exact⟨rfl,rfl,rfl,rfl⟩)|(cases h)
theorem cellsOf_R {vs:List Value} {cs:List Cell} (h:cellsOf vs=some cs) (m:Inj) (n:Nat):RL m n cs vs:=by
 induction vs generalizing cs with
 |nil=>simp[cellsOf] at h;subst h;exact .nil
 |cons v r ih=>
  simp only[cellsOf] at h
  cases hc:cellOf v with
  |none=>simp[hc] at h
  |some c=>
   cases hr:cellsOf r with
   |none=>simp[hc,hr] at h
   |some l=>simp[hc,hr] at h;subst h;exact .cons (cellOf_R hc m n) (ih hr)
theorem vOf_R {v:Value} {x:V} (h:vOf v=some x) (m:Inj) (n:Nat):x.R m n v:=by
 unfold vOf at h
 split at h
 ·rename_i cs
  cases hc:cellsOf cs.toList with
  |none=>simp[hc] at h
  |some l=>simp[hc] at h;subst h;exact⟨cs,rfl,cellsOf_R hc m n⟩
 ·cases hc:cellOf v with
  |none=>simp[hc] at h
  |some c=>simp[hc] at h;subst h;exact cellOf_R hc m n
def cX (G:Nat→Option Nat):Operand→Option X
 |.tmp t=>some (.t t)
 |.const v=>(vOf v).map .k
 |.global g=>(G g).map fun b=>.k (.c (.ptr (some (b,0))))
 |.func f=>some (.k (.c (.fn f [] [])))
def cXs (G:Nat→Option Nat):List Operand→Option (List X)
 |[]=>some []
 |x :: r=>(cX G x).bind fun y=>(cXs G r).map (y :: ·)
def cXo (G:Nat→Option Nat):Option Operand→Option (Option X)
 |none=>some none
 |some x=>(cX G x).map some
def rdOf (P:Program) (T:TypeId):Option (Option Nat):=
 match P.underlying T,P.info? T with
 |some (.struct _),some i=>some (some i.size)
 |some (.array ..),some i=>some (some i.size)
 |some _,some _=>some none
 |_,_=>none
def szOf (P:Program) (T:TypeId):Option Nat:=(P.info? T).map (·.size)
def zOf (P:Program) (T:TypeId):Option V:=((P.info? T).bind (·.zero)).bind vOf
def leavesF (P:Program) (rec:TypeId→Option (List KK)):Nat→List Field→Option (List KK)
 |_,[]=>some []
 |off,f :: fs=>
  if f.name≠"_"∧f.offset=off then
   (rec f.type).bind fun l=>if szOf P f.type=some l.length then (leavesF P rec (off+l.length) fs).map (l++·) else none
  else none
def leaves (P:Program):Nat→TypeId→Option (List KK)
 |0,_=>none
 |d+1,T=>
  match P.underlying T with
  |some (.int _)=>some [.int]
  |some .bool=>some [.bool]
  |some .string=>some [.str]
  |some (.struct fs)=>if P.stoodInHeld T then none else leavesF P (leaves P d) 0 fs.toList
  |some (.array n e)=>(leaves P d e).bind fun l=>if szOf P e=some l.length then some (List.replicate n l).flatten else none
  |_=>none
def keyT (P:Program) (T:TypeId):Option KK:=
 match P.underlying T with
 |some (.int _)=>some .int
 |some .bool=>some .bool
 |some .string=>some .str
 |_=>none
def places (P:Program) (G:Nat→Option Nat) (at_:Nat→Option (Nat × Nat)):List (Nat × Operand)→Option (List (Nat × Nat × X))
 |[]=>some []
 |(i,x) :: r=>(at_ i).bind fun p=>(cX G x).bind fun y=>(places P G at_ r).map ((p.1,p.2,y) :: ·)
def fieldsAt (P:Program) (fs:Array Field) (i:Nat):Option (Nat × Nat):=(fs[i]?).bind fun f=>(szOf P f.type).map fun n=>(f.offset,n)
def cBuiltin (P:Program) (G:Nat→Option Nat) (b:Builtin) (ts:Array TypeId) (args:List Operand):Option IOp:=
 match b,args with
 |.len,[x]=>
  match (ts[0]?).bind P.underlying with
  |some .string=>(cX G x).map (.len true)
  |some (.slice _)=>(cX G x).map (.len false)
  |some (.array n _)=>some (.lenK n)
  |some (.pointer e)=>match P.underlying e with
   |some (.array n _)=>some (.lenK n)
   |_=>none
  |_=>none
 |.append,[s,x]=>
  match (ts[0]?).bind P.underlying,(ts[1]?).bind P.underlying with
  |some (.slice e),some (.slice _)=>(cX G s).bind fun s=>(cX G x).bind fun x=>(P.info? e).bind fun i=>if i.zero.map (·.cells.size)=some i.size∧0<i.size then some (.app e i.size i.bytes s x) else none
  |some (.slice e),some .string=>(cX G s).bind fun s=>(cX G x).bind fun x=>(P.info? e).bind fun i=>if i.zero.map (·.cells.size)=some 1∧i.size=1∧i.bytes=1 then some (.appT e s x) else none
  |_,_=>none
 |.copy,[d,s]=>
  match (ts[0]?).bind P.underlying with
  |some (.slice e)=>(cX G d).bind fun d=>(cX G s).bind fun s=>(szOf P e).map fun n=>.cpy n d s
  |_=>none
 |.clear,[x]=>
  match (ts[0]?).bind P.underlying with
  |some (.slice e)=>(cX G x).bind fun x=>(zOf P e).bind fun z=>z.cells.bind fun z=>(szOf P e).map fun n=>.clr n z x
  |_=>none
 |.max,x :: ys=>(cX G x).bind fun x=>(cXs G ys).map fun ys=>.mx x ys
 |.min,x :: ys=>(cX G x).bind fun x=>(cXs G ys).map fun ys=>.mn x ys
 |_,_=>none
def cOp (P:Program) (G:Nat→Option Nat):Op→Option IOp
 |.move x|.assign x=>(cX G x).map .mv
 |.pick c a b=>(cX G c).bind fun c=>(cX G a).bind fun a=>(cX G b).map fun b=>.pick c a b
 |.alloc T=>(zOf P T).map fun z=>.new T z
 |.box T x=>(cX G x).map fun x=>.box T x
 |.build T ps=>
  match P.underlying T with
  |some (.struct fs)=>if fs.toList.all (fun f=>(P.info? f.type).isSome) then (zOf P T).bind fun z=>z.cells.bind fun z=>(places P G (fieldsAt P fs) ps.toList).map fun ps=>.build z ps else none
  |some (.array _ e)=>(zOf P T).bind fun z=>z.cells.bind fun z=>(szOf P e).bind fun n=>(places P G (fun i=>some (i * n,n)) ps.toList).map fun ps=>.build z ps
  |_=>none
 |.buildSlice T len ps=>
  match P.underlying T with
  |some (.slice e)=>(zOf P e).bind fun z=>z.cells.bind fun z=>(szOf P e).bind fun n=>
   if z.length=n∧len * n≤2 ^ 24 then (places P G (fun i=>some (i * n,n)) ps.toList).map fun ps=>.bsl e len (grows z len) ps else none
  |_=>none
 |.load T a=>(cX G a).bind fun a=>(rdOf P T).map fun n=>.ld n a
 |.store T a x=>(cX G a).bind fun a=>(cX G x).bind fun x=>(szOf P T).map fun n=>.st n a x
 |.nilCheck x=>(cX G x).map .nilck
 |.binOp op T x y _=>(cX G x).bind fun x=>(cX G y).bind fun y=>
  match op with
  |.eql|.neq=>
   match P.underlying T with
   |some (.int _)|some .string=>some (.bin op x y)
   |some .bool=>some (.eq .bool (op == .neq) x y)
   |some (.pointer _)=>some (.eq .ptr (op == .neq) x y)
   |some (.slice _)=>some (.eq .sl (op == .neq) x y)
   |some (.map ..)=>some (.eq .map (op == .neq) x y)
   |some (.func ..)=>some (.eq .fn (op == .neq) x y)
   |some (.struct _)|some (.array ..)=>if P.eqGuardType P.depth T then none else (leaves P 100 T).map fun L=>.eqagg L (op == .neq) x y
   |_=>none
  |_=>some (.bin op x y)
 |.unOp op _ x=>(cX G x).map fun x=>.un op x
 |.convert s d x=>(cX G x).bind fun x=>
  match P.underlying s,P.underlying d with
  |some (.int _),some (.int k)=>some (.cv k x)
  |some (.slice e),some .string=>match P.underlying e with
   |some (.int .u8)=>some (.b2s x)
   |_=>none
  |some .string,some (.slice e)=>match P.underlying e with
   |some (.int .u8)=>none
   |_=>none
  |_,_=>none
 |.makeFunc (.func f) first caps=>(cXs G first.toList).bind fun a=>(cXs G caps.toList).map fun b=>.mkfn f a b
 |.makeMap _ none=>some (.mkmap none)
 |.makeMap T (some x)=>match P.underlying T with
  |some (.map ..)=>(cX G x).map fun x=>.mkmap (some x)
  |_=>none
 |.insert T m k v|.mapUpdate T m k v=>
  match P.underlying T with
  |some (.map kt _)=>(keyT P kt).bind fun kk=>(cX G m).bind fun m=>(cX G k).bind fun k=>(cX G v).map fun v=>.ins kk m k v
  |_=>none
 |.lookup T m k ok=>
  match P.underlying T with
  |some (.map kt e)=>(keyT P kt).bind fun kk=>(zOf P e).bind fun z=>(cX G m).bind fun m=>(cX G k).map fun k=>.look kk z ok m k
  |_=>none
 |.makeSlice T l c=>
  match P.underlying T with
  |some (.slice e)=>(zOf P e).bind fun z=>z.cells.bind fun z=>(P.info? e).bind fun i=>(cX G l).bind fun l=>(cX G c).map fun c=>.mksl e i.size i.bytes z l c
  |_=>none
 |.slice T x lo hi mx=>(cX G x).bind fun x=>(cXo G lo).bind fun lo=>(cXo G hi).bind fun hi=>(cXo G mx).bind fun mx=>
  match P.underlying T with
  |some (.slice e)=>(szOf P e).map fun n=>.slS n x lo hi mx
  |some (.array k e)=>(szOf P e).map fun n=>.slA k n x lo hi mx
  |some .string=>if mx.isNone then some (.slT x lo hi) else none
  |_=>none
 |.fieldAddr T x f=>
  match P.underlying T with
  |some (.struct fs)=>(cX G x).bind fun x=>(fs[f]?).bind fun f=>(szOf P f.type).bind fun n=>if n=0 then none else some (.fa f.offset x)
  |_=>none
 |.field T x f=>
  match P.underlying T with
  |some (.struct fs)=>(cX G x).bind fun x=>(fs[f]?).bind fun f=>(rdOf P f.type).map fun n=>.fld f.offset n x
  |_=>none
 |.indexAddr T x i=>(cX G x).bind fun x=>(cX G i).bind fun i=>
  match P.underlying T with
  |some (.slice e)=>(szOf P e).map fun n=>.iaS n x i
  |some (.array k e)=>(szOf P e).map fun n=>.iaA k n x i
  |_=>none
 |.index T x i=>(cX G x).bind fun x=>(cX G i).bind fun i=>
  match P.underlying T with
  |some (.array k e)=>(szOf P e).bind fun n=>(rdOf P e).map fun r=>.ix k n r x i
  |some .string=>some (.ixT x i)
  |_=>none
 |.extract x i=>(cX G x).map fun x=>.ext x i
 |.call { callee:=.value f,args,.. }=>(cX G f).bind fun f=>(cXs G args.toList).map fun a=>.call f a
 |.call { callee:=.builtin b,args,argTypes }=>cBuiltin P G b argTypes args.toList
 |_=>none
def cGuard (ops:Array Oper):Option (Nat × Bool)→Option (Option (Nat × Bool))
 |none=>some none
 |some (j,b)=>((ops[j]?).bind (·.dst)).map fun d=>some (d,b)
def cOper (P:Program) (G:Nat→Option Nat) (ops:Array Oper) (o:Oper):IOper:=
 match cGuard ops o.guard with
 |some g=>⟨o.dst,(cOp P G o.op).getD .bad,g⟩
 |none=>⟨none,.bad,none⟩
def bound (o:Oper):List Edge:=o.after.toList.filter (Region.binds .any)
def ancs:List Oper→List Nat→List Nat
 |[],acc=>acc
 |o :: r,acc=>ancs r (acc++[(bound o).foldr (fun e s=>2 ^ e.on ||| (acc[e.on]?).getD 0 ||| s) 0])
def chkOf (o:IOper):Option IOper:=
 match o.op,o.dst with
 |.ld n a,some d=>if o.slots.contains d then none else some ⟨none,.same (some n) a (.t d),o.guard⟩
 |.b2s a,some d=>if o.slots.contains d then none else some ⟨none,.same none a (.t d),o.guard⟩
 |_,_=>none
def IOper.misses (d:Option Nat) (y:IOper):Bool:=
 match d with
 |some d=>!y.slots.contains d
 |none=>true
def IOper.dstOk (x y:IOper):Bool:=y.misses x.dst && (match x.dst with|some d=>y.dst != some d|none=>true) && x.misses y.dst
def IOp.alloc:IOp→Bool
 |.new .. | .box .. | .bsl .. | .mksl ..=>true
 |_=>false
def chks (I:Nat→IOper) (cs:List Nat):List IOper:=cs.filterMap fun k=>chkOf (I k)
def passOk (I:Nat→IOper) (kx:Nat) (cx:List Nat) (kz:Nat) (cz:List Nat):Bool:=
 (I kx).dstOk (I kz) && cz.all (fun k=>k == kx || (chkOf (I k)).all fun c=>c.misses (I kx).dst) && (chks I cx).all (fun c=>c.misses (I kz).dst) &&
 (((I kz).op.pure && cz.isEmpty) || ((I kx).op.pure && cx.isEmpty && cz.all (· != kx)) || ((I kx).op.reads && (I kz).op.reads && cx.isEmpty && cz.isEmpty) || ((I kz).op.alloc && cz.isEmpty) ||
  ((I kx).op.alloc && cx.isEmpty && cz.all (· != kx)) || (cx.isEmpty && (chkOf (I kx)).isSome && cz.contains kx))
def frontOk (I:Nat→IOper) (anc:Nat→Bool) (kz:Nat):List Nat→List (Nat × List Nat)→Bool
 |_,[]=>true
 |cz,(kx,cx) :: r=>(anc kx || passOk I kx cx kz cz) && frontOk I anc kz (cz.filter (· != kx)) r
def plansOk (I:Nat→IOper) (A:List Nat):List (Nat × List Nat)→List (Nat × List Nat)→Bool
 |_,[]=>true
 |pre,(kz,cz) :: r=>frontOk I (fun i=>((A[kz]?).getD 0).testBit i) kz cz pre && plansOk I A ((kz,cz) :: pre) r
def earlyIn (anc:Nat→Bool) (i:Nat) (ord:List Nat):List Nat:=
 let r:=ord.reverse
 let late:=r.takeWhile fun j=>!anc j
 let early:=r.dropWhile fun j=>!anc j
 early.reverse++i :: late.reverse
def orderOf (I:Nat→IOper) (A:List Nat) (n:Nat):List Nat:=
 (List.range n).foldl (fun ord i=>if (I i).op.reads then earlyIn (fun j=>((A[i]?).getD 0).testBit j) i ord else ord++[i]) []
def checksOf (I:Nat→IOper) (A:List Nat):List Nat→List Nat→List (Nat × List Nat)
 |_,[]=>[]
 |pre,k :: r=>(k,if (I k).op.reads || (I k).op.alloc then [] else pre.filter fun j=>!((A[k]?).getD 0).testBit j && (chkOf (I j)).isSome) :: checksOf I A (pre++[k]) r
def opAt (P:Program) (G:Nat→Option Nat) (ops:Array Oper) (i:Nat):IOper:=cOper P G ops (ops.getD i default)
def drawPlan (P:Program) (G:Nat→Option Nat) (ops:Array Oper):Option (List (Nat × List Nat)):=
 let l:=ops.toList
 let A:=ancs l []
 let I:=opAt P G ops
 let n:=ops.size
 let base:=P.follows .mixedOrders && l.zipIdx.all fun(o,i)=>(bound o).all fun e=>decide (e.on<i)
 let plain:=(List.range n).map fun i=>(i,([]:List Nat))
 if base && plansOk I A [] plain then some plain else
 let pl:=checksOf I A [] (orderOf I A n)
 if base && (pl.map (·.1)).length == n && (pl.map (·.1)).all (fun i=>decide (i<n)) && (List.range n).all (fun i=>(pl.map (·.1)).contains i) && decide (pl.map (·.1)).Nodup && plansOk I A [] pl then some pl else none
def flatPlan (I:Nat→IOper) (pl:List (Nat × List Nat)):List IOper:=pl.flatMap fun u=>I u.1 :: chks I u.2
def comp (P:Program) (G:Nat→Option Nat):Code→IC
 |.skip=>.skip
 |.region _ ops draw=>if draw then match drawPlan P G ops with
   |some pl=>.ops (flatPlan (opAt P G ops) pl)
   |none=>.bad
  else .ops (ops.toList.map (cOper P G ops))
 |.seq a b=>.seq (comp P G a) (comp P G b)
 |.cond c a b=>match cX G c with
  |some c=>.cond c (comp P G a) (comp P G b)
  |none=>.bad
 |.block id b=>.block id (comp P G b)
 |.loop b=>.loop (comp P G b)
 |.rangeFunc f ps assign body=>match cX G f with
  |some f=>.rangeF f ps.toList (comp P G assign) (comp P G body)
  |none=>.bad
 |.exit id=>.exit id
 |.ret=>.ret
 |.label _=>.skip
 |.scope c=>.seq .skip (comp P G c)
 |_=>.bad
def cRes (P:Program):List ResultVar→Option (List (Nat × Option (Option Nat)))
 |[]=>some []
 |.tmp t :: r=>(cRes P r).map ((t,none) :: ·)
 |.cell a T :: r=>(rdOf P T).bind fun n=>(cRes P r).map ((a,some n) :: ·)
def compF (P:Program) (G:Nat→Option Nat) (f:Func):Option IFn:=
 f.body.bind fun b=>(cRes P f.results.toList).map fun r=>⟨f.ntmps,comp P G b,r⟩
end Go.Proofs.YtjcgdcadflplcaaDoor.AM
/- AM, third text: how abstract memory stands to the machine's; a cell read, a cell written, a block made, a block dead. -/
namespace Go.Proofs.YtjcgdcadflplcaaDoor.AM
open Go Go.RowKit
structure Ctx where
 P:Program
 G:Nat→Option Nat
 F:FuncId→Option Fun
def lstOf:LSt→LoopState
 |.ready=>.ready
 |.busy=>.busy
 |.done=>.done
 |.exhausted=>.exhausted
def exCode:Ex→Option Code
 |.normal=>none
 |.exit i=>some (.exit i)
 |.ret=>some .ret
structure LoopR (K:Ctx) (m:Inj) (n:Nat) (st:LSt) (pd:Option Ex) (r:LRec) (L:Loop):Prop where
 state:L.state=lstOf st
 pend:L.pending=pd.bind exCode
 pdn:pd≠some Ex.normal
 t:All2 (V.R m n) r.t L.tmps.toList
 ps:L.params.toList=r.ps
 assign:comp K.P K.G L.assign=r.assign
 body:comp K.P K.G L.body=r.body
 dlt:r.defers<n
 defers:L.defers=(m r.defers).blk
def RAt (m:Inj) (n:Nat) (cs:List Cell) (C:Array Value) (off:Nat):Prop:=
 ∀i c,cs[i]?=some c→∃v,C[off+i]?=some v∧c.R m n v
def Blk.own:Blk→Bool
 |.cells _ ro _=>!ro
 |.dead=>false
 |_=>true
def BlkR (K:Ctx) (m:Inj) (n base:Nat) (loc:Loc) (w:World):Blk→Prop
 |.cells cs ro gr=>∃C T fz,w.heap[loc.blk]?=some (.cells C T fz)∧RAt m n cs C loc.off∧(ro=false→base≤loc.blk∧fz=(0,0))∧
   (∀sz,gr=some sz→loc.off+cs.length+loc.extra * sz=C.size)
 |.dead=>True
 |.map es=>base≤loc.blk∧∃E clk,w.heap[loc.blk]?=some (.map E clk)∧All2 (fun(x:Cell × V) (e:MapEntry)=>x.1.R m n e.key∧x.2.R m n e.val) es E.toList
 |.loop st pd r=>base≤loc.blk∧∃L,w.heap[loc.blk]?=some (.loop L)∧LoopR K m n st pd r L
 |.defd=>base≤loc.blk∧w.heap[loc.blk]?=some (.deferred (some []))
 |.shut=>base≤loc.blk∧w.heap[loc.blk]?=some (.deferred none)
structure Rel (K:Ctx) (m:Inj) (base:Nat) (H:Heap) (w:World):Prop where
 blk:∀(b:Nat) (x:Blk),H[b]?=some x→BlkR K m H.length base (m b) w x
 inj:∀(b b':Nat) (x x':Blk),H[b]?=some x→H[b']?=some x'→b≠b'→x.own=true→x'.own=true→(m b).blk≠(m b').blk
 ro:∀(b:Nat) (cs:List Cell) (gr:Option Nat),H[b]?=some (.cells cs true gr)→(m b).blk<base
 size:base≤w.heap.size
 glob:∀g b,K.G g=some b→b<H.length∧(m b).blk=g∧(m b).off=0
theorem RAt.later {m m':Inj} {n n':Nat} {cs:List Cell} {C:Array Value} {off:Nat} (h:RAt m n cs C off) (hl:Later m n m' n'):RAt m' n' cs C off:=
 fun i c e=>let ⟨v,hv,hr⟩:=h i c e;⟨v,hv,hr.later hl⟩
theorem LoopR.later {K:Ctx} {m m':Inj} {n n':Nat} {st:LSt} {pd:Option Ex} {r:LRec} {L:Loop} (h:LoopR K m n st pd r L) (hl:Later m n m' n'):LoopR K m' n' st pd r L:=
 ⟨h.state,h.pend,h.pdn,h.t.imp fun _ _ hr=>hr.later hl,h.ps,h.assign,h.body,Nat.lt_of_lt_of_le h.dlt hl.1,by rw[hl.2 _ h.dlt];exact h.defers⟩
theorem BlkR.later {K:Ctx} {m m':Inj} {n n' base:Nat} {loc:Loc} {w:World} {x:Blk} (h:BlkR K m n base loc w x) (hl:Later m n m' n'):BlkR K m' n' base loc w x:=by
 cases x with
 |cells cs ro gr=>obtain⟨C,T,fz,h1,h2,h3,h4⟩:=h;exact⟨C,T,fz,h1,h2.later hl,h3,h4⟩
 |dead=>trivial
 |map es=>obtain⟨h0,E,clk,h1,h2⟩:=h;exact⟨h0,E,clk,h1,h2.imp fun _ _ hr=>⟨hr.1.later hl,hr.2.later hl⟩⟩
 |loop st pd r=>obtain⟨h0,L,h1,h2⟩:=h;exact⟨h0,L,h1,h2.later hl⟩
 |defd=>exact h
 |shut=>exact h
theorem BlkR.world {K:Ctx} {m:Inj} {n base:Nat} {loc:Loc} {w w':World} {x:Blk} (h:BlkR K m n base loc w x) (hw:w'.heap[loc.blk]?=w.heap[loc.blk]?):BlkR K m n base loc w' x:=by
 cases x with
 |cells cs ro gr=>obtain⟨C,T,fz,h1,h2⟩:=h;exact⟨C,T,fz,hw.trans h1,h2⟩
 |dead=>trivial
 |map es=>obtain⟨h0,E,clk,h1,h2⟩:=h;exact⟨h0,E,clk,hw.trans h1,h2⟩
 |loop st pd r=>obtain⟨h0,L,h1,h2⟩:=h;exact⟨h0,L,hw.trans h1,h2⟩
 |defd=>exact⟨h.1,hw.trans h.2⟩
 |shut=>exact⟨h.1,hw.trans h.2⟩
theorem BlkR.own_base {K:Ctx} {m:Inj} {n base:Nat} {loc:Loc} {w:World} {x:Blk} (h:BlkR K m n base loc w x) (ho:x.own=true):base≤loc.blk:=by
 cases x with
 |cells cs ro gr=>obtain⟨C,T,fz,h1,h2,h3,h4⟩:=h;exact(h3 (by simpa [Blk.own] using ho)).1
 |dead=>simp[Blk.own] at ho
 |map es=>exact h.1
 |loop st pd r=>exact h.1
 |defd=>exact h.1
 |shut=>exact h.1
theorem BlkR.lt {K:Ctx} {m:Inj} {n base:Nat} {loc:Loc} {w:World} {x:Blk} (h:BlkR K m n base loc w x) (hd:x≠.dead):loc.blk<w.heap.size:=by
 have key:∀o:Obj,w.heap[loc.blk]?=some o→loc.blk<w.heap.size:=fun o e=>(Array.getElem?_eq_some_iff.1 e).1
 cases x with
 |cells cs ro gr=>obtain⟨C,T,fz,h1,_⟩:=h;exact key _ h1
 |dead=>exact absurd rfl hd
 |map es=>obtain⟨_,E,clk,h1,_⟩:=h;exact key _ h1
 |loop st pd r=>obtain⟨_,L,h1,_⟩:=h;exact key _ h1
 |defd=>exact key _ h.2
 |shut=>exact key _ h.2
section
variable {K:Ctx} {m:Inj} {base:Nat} {H:Heap} {w:World}
theorem Rel.turn (hR:Rel K m base H w) {b:Nat} {x y:Blk} (hb:H[b]?=some x) (hx:x.own=true) {w':World} (hs:w.heap.size≤w'.heap.size)
  (hw:∀k,k<w.heap.size→k≠(m b).blk→w'.heap[k]?=w.heap[k]?) (hy:BlkR K m H.length base (m b) w' y) (ho:y.own=true∨y=.dead):
  Rel K m base (H.set b y) w':=by
 have hlt:b<H.length:=(List.getElem?_eq_some_iff.1 hb).1
 have hbase:base≤(m b).blk:=(hR.blk b x hb).own_base hx
 have old:∀b' z,b'≠b→H[b']?=some z→BlkR K m H.length base (m b') w' z:=by
  intro b' z hne hz
  by_cases hd:z=.dead
  ·subst hd;trivial
  refine(hR.blk b' z hz).world (hw _ ((hR.blk b' z hz).lt hd) ?_)
  by_cases hzo:z.own=true
  ·exact hR.inj b' b z x hz hb hne hzo hx
  ·have:∃cs gr,z=.cells cs true gr:=by
    cases z with
    |cells cs ro gr=>cases ro with|true=>exact⟨cs,gr,rfl⟩|false=>simp[Blk.own] at hzo
    |dead=>exact absurd rfl hd
    |_=>simp[Blk.own] at hzo
   obtain⟨cs,gr,rfl⟩:=this
   have:=hR.ro b' cs gr hz
   omega
 refine⟨?_,?_,?_,Nat.le_trans hR.size hs,by rw[List.length_set];exact hR.glob⟩
 ·intro b' z hz
  rw[List.length_set]
  by_cases e:b'=b
  ·subst e
   rw[List.getElem?_set_self hlt] at hz
   cases hz;exact hy
  ·rw[List.getElem?_set_ne (by omega)] at hz
   exact old b' z e hz
 ·intro c c' z z' hz hz' hne hzo hzo'
  have aux:∀(c:Nat) (z:Blk),(H.set b y)[c]?=some z→z.own=true→∃z₀:Blk,H[c]?=some z₀∧z₀.own=true:=by
   intro c z hz hzo
   by_cases e:c=b
   ·subst e;exact⟨x,hb,hx⟩
   ·rw[List.getElem?_set_ne (by omega)] at hz;exact⟨z,hz,hzo⟩
  obtain⟨z₀,h1,h2⟩:=aux c z hz hzo
  obtain⟨z₁,h3,h4⟩:=aux c' z' hz' hzo'
  exact hR.inj c c' z₀ z₁ h1 h3 hne h2 h4
 ·intro c cs gr hz
  by_cases e:c=b
  ·subst e
   rw[List.getElem?_set_self hlt] at hz
   cases hz
   rcases ho with ho|ho<;>simp[Blk.own] at ho
  ·rw[List.getElem?_set_ne (by omega)] at hz
   exact hR.ro c cs gr hz
def upd (m:Inj) (n:Nat) (l:Loc):Inj:=fun b=>if b=n then l else m b
theorem upd_self (m:Inj) (n:Nat) (l:Loc):upd m n l n=l:=by simp[upd]
theorem upd_later (m:Inj) (n:Nat) (l:Loc):Later m n (upd m n l) (n+1):=⟨by omega,fun b hb=>by simp[upd];omega⟩
theorem Rel.push (hR:Rel K m base H w) {y:Blk} {loc:Loc} {w':World} (hs:w.heap.size≤w'.heap.size)
  (hw:∀k,k<w.heap.size→w'.heap[k]?=w.heap[k]?) (hy:BlkR K (upd m H.length loc) (H.length+1) base loc w' y) (ho:y.own=true)
  (hn:∀b x,H[b]?=some x→x.own=true→(m b).blk≠loc.blk):
  Rel K (upd m H.length loc) base (H++[y]) w':=by
 have hl:Later m H.length (upd m H.length loc) (H.length+1):=upd_later _ _ _
 have hlen:(H++[y]).length=H.length+1:=by simp
 have split:∀b z,(H++[y])[b]?=some z→(b<H.length∧H[b]?=some z)∨(b=H.length∧z=y):=by
  intro b z hz
  by_cases h:b<H.length
  ·rw[List.getElem?_append_left h] at hz;exact .inl ⟨h,hz⟩
  ·have:b<(H++[y]).length:=(List.getElem?_eq_some_iff.1 hz).1
   have e:b=H.length:=by simp at this;omega
   subst e
   rw[List.getElem?_append_right (Nat.le_refl _)] at hz
   simp at hz
   exact .inr ⟨rfl,hz.symm⟩
 refine⟨?_,?_,?_,Nat.le_trans hR.size hs,fun g b e=>by obtain⟨h1,h2⟩:=hR.glob g b e;rw[hlen,hl.2 b h1];exact⟨by omega,h2⟩⟩
 ·intro b z hz
  rw[hlen]
  rcases split b z hz with ⟨h1,h2⟩|⟨rfl,rfl⟩
  ·rw[hl.2 b h1]
   by_cases hd:z=.dead
   ·subst hd;trivial
   exact((hR.blk b z h2).later hl).world (hw _ ((hR.blk b z h2).lt hd))
  ·rw[upd_self];exact hy
 ·intro b b' z z' hz hz' hne hzo hzo'
  rcases split b z hz with ⟨h1,h2⟩|⟨rfl,rfl⟩<;>rcases split b' z' hz' with ⟨h3,h4⟩|⟨rfl,rfl⟩
  ·rw[hl.2 b h1,hl.2 b' h3];exact hR.inj b b' z z' h2 h4 hne hzo hzo'
  ·rw[hl.2 b h1,upd_self];exact hn b z h2 hzo
  ·rw[hl.2 b' h3,upd_self];exact(hn b' z' h4 hzo').symm
  ·exact absurd rfl hne
 ·intro b cs gr hz
  rcases split b _ hz with ⟨h1,h2⟩|⟨rfl,rfl⟩
  ·rw[hl.2 b h1];exact hR.ro b cs gr h2
  ·simp[Blk.own] at ho
theorem Rel.alloc (hR:Rel K m base H w) {y:Blk} {o:Obj} (extra:Nat) (hy:BlkR K (upd m H.length ⟨w.heap.size,0,extra⟩) (H.length+1) base ⟨w.heap.size,0,extra⟩ (w.alloc o) y) (ho:y.own=true):
  Rel K (upd m H.length ⟨w.heap.size,0,extra⟩) base (H++[y]) (w.alloc o):=by
 refine hR.push (by simp) (fun k hk=>Below.heap_alloc w o k hk) hy ho fun b x hb hx=>?_
 have:x≠.dead:=by rintro rfl;simp[Blk.own] at hx
 have:=(hR.blk b x hb).lt this
 simp;omega
theorem heap_alloc_new (w:World) (o:Obj):(w.alloc o).heap[w.heap.size]?=some o:=by
 show (w.heap.push o)[w.heap.size]?=_
 simp
theorem Rel.cell (hR:Rel K m base H w) {a:Ad} {c:Cell} (h:H.ld a=some c):∃v,w.cell? (adr m a)=some v∧c.R m H.length v:=by
 unfold Heap.ld Heap.cells at h
 cases hb:H[a.1]? with
 |none=>simp[hb] at h
 |some x=>
  cases x with
  |cells cs ro gr=>
   simp[hb] at h
   obtain⟨C,T,fz,h1,h2,_⟩:=hR.blk a.1 _ hb
   obtain⟨v,hv,hr⟩:=h2 a.2 c h
   exact⟨v,by simp[World.cell?,adr,h1,hv],hr⟩
  |_=>simp[hb] at h
theorem sub_get {cs:List Cell} {o n:Nat} {l:List Cell} (h:sub cs o n=some l):l.length=n∧∀i,i<n→l[i]?=cs[o+i]?:=by
 unfold sub at h
 split at h
 ·cases h
  refine⟨by simp;omega,fun i hi=>?_⟩
  rw[List.getElem?_take_of_lt hi,List.getElem?_drop]
 ·cases h
theorem Rel.cells (hR:Rel K m base H w) {a:Ad} {n:Nat} {l:List Cell} (h:H.ldn a n=some l):
  l.length=n∧∀i c,l[i]?=some c→∃v,w.cell? (adr m (addA a i))=some v∧c.R m H.length v:=by
 unfold Heap.ldn at h
 cases hb:H.cells a.1 with
 |none=>simp[hb] at h
 |some cs=>
  simp[hb] at h
  obtain⟨hlen,hg⟩:=sub_get h
  refine⟨hlen,fun i c hi=>?_⟩
  have hlt:i<n:=by have:=(List.getElem?_eq_some_iff.1 hi).1;omega
  refine hR.cell (a:=addA a i) (c:=c) ?_
  unfold Heap.ld
  rw[show (addA a i).1=a.1 from rfl,hb,Option.bind_some,show (addA a i).2=a.2+i from rfl,←hg i hlt]
  exact hi
theorem RAt.set {m:Inj} {n:Nat} {cs:List Cell} {C:Array Value} {off o:Nat} {c:Cell} {v:Value} (h:RAt m n cs C off) (hr:c.R m n v) (ho:o<cs.length):
  RAt m n (cs.set o c) (C.setIfInBounds (off+o) v) off:=by
 intro i c' hc
 by_cases e:i=o
 ·subst e
  rw[List.getElem?_set_self ho] at hc
  cases hc
  obtain⟨v',hv',_⟩:=h i cs[i] (List.getElem?_eq_getElem ho)
  have:=(Array.getElem?_eq_some_iff.1 hv').1
  exact⟨v,by simp[Array.getElem?_setIfInBounds,this],hr⟩
 ·rw[List.getElem?_set_ne (by omega)] at hc
  obtain⟨v',hv',hr'⟩:=h i c' hc
  exact⟨v',by rw[Array.getElem?_setIfInBounds,if_neg (by omega)];exact hv',hr'⟩
theorem Rel.store (hR:Rel K m base H w) {b o:Nat} {cs:List Cell} {gr:Option Nat} {c:Cell} {v:Value} (hb:H[b]?=some (.cells cs false gr)) (ho:o<cs.length) (hr:c.R m H.length v):
  (∃u,w.cell? (adr m (b,o))=some u)∧w.frozen? (adr m (b,o))=false∧Rel K m base (H.set b (.cells (cs.set o c) false gr)) (w.setCell (adr m (b,o)) v)∧Below base w (w.setCell (adr m (b,o)) v):=by
 obtain⟨C,T,fz,h1,h2,h3,h4⟩:=hR.blk b _ hb
 obtain⟨h3',hfz⟩:=h3 rfl
 clear h3
 subst hfz
 have h3:=h3'
 obtain⟨u,hu,_⟩:=h2 o _ (List.getElem?_eq_getElem ho)
 refine⟨⟨u,by simp[World.cell?,adr,h1,hu]⟩,by simp[World.frozen?,adr,h1],?_,(Below.refl _ _).setCell (by simpa [adr] using h3) _⟩
 refine hR.turn hb rfl (by simp) (fun k _ hk=>Below.heap_setCell _ _ _ _ (by simpa [adr] using hk)) ?_ (.inl rfl)
 refine⟨C.setIfInBounds ((m b).off+o) v,T,(0,0),?_,h2.set hr ho,fun _=>⟨h3,rfl⟩,fun sz hsz=>by simp;exact h4 sz hsz⟩
 have hlt:=(Array.getElem?_eq_some_iff.1 h1).1
 show (w.heap.modify (m b).blk _)[(m b).blk]?=_
 rw[Array.getElem?_modify,if_pos rfl,h1]
 rfl
end
end Go.Proofs.YtjcgdcadflplcaaDoor.AM
/- AM, fourth text: what an operation of the abstract machine comes to, the machine's operation comes to. -/
namespace Go.Proofs.YtjcgdcadflplcaaDoor.AM
open Go Go.RowKit
theorem adr_add (m:Inj) (a:Ad) (i:Nat):(adr m a).add i=adr m (addA a i):=by
 unfold Addr.add
 split
 ·rename_i h;subst h;simp[adr,addA]
 ·simp[adr,addA,Nat.add_assoc]
section
variable {K:Ctx} {m:Inj} {base:Nat} {H:Heap} {w:World}
theorem All2.mem_left {α β:Type} {R:α→β→Prop} {l:List α} {r:List β} (h:All2 R l r):∀b∈r,∃a,R a b:=by
 induction h with
 |nil=>intro b hb;cases hb
 |cons h _ ih=>intro b hb;cases hb with
  |head=>exact⟨_,h⟩
  |tail _ hb=>exact ih b hb
theorem Rel.loads (hR:Rel K m base H w) {a:Ad} {n:Nat} {l:List Cell} (h:H.ldn a n=some l):
  ∃vs:Array Value,(∀w':World,w'.heap=w.heap→(loadCells (adr m a) n).run K.P w'=.ok vs w')∧RL m H.length l vs.toList:=by
 obtain⟨hlen,hc⟩:=hR.cells h
 have hex:∀i,∃v,i<n→w.cell? (adr m (addA a i))=some v∧∃c,l[i]?=some c∧c.R m H.length v:=by
  intro i
  by_cases hi:i<n
  ·have:l[i]?=some (l[i]'(by omega)):=List.getElem?_eq_getElem (by omega)
   obtain⟨v,h1,h2⟩:=hc i _ this
   exact⟨v,fun _=>⟨h1,_,this,h2⟩⟩
  ·exact⟨undef,fun h=>absurd h hi⟩
 obtain⟨f,hf⟩:∃f:Nat→Value,∀i,i<n→w.cell? (adr m (addA a i))=some (f i)∧∃c,l[i]?=some c∧c.R m H.length (f i):=
  ⟨fun i=>(hex i).choose,fun i=>(hex i).choose_spec⟩
 refine⟨_,fun w' hw'=>run_loadCells (P:=K.P) w' (adr m a) n f fun j hj=>by rw[adr_add];exact(by simp only[World.cell?,hw'];exact(hf j hj).1),?_⟩
 refine All2.of_get (by simp[hlen]) fun i c hi=>?_
 have hlt:i<n:=by have:=(List.getElem?_eq_some_iff.1 hi).1;omega
 obtain⟨_,c',hc',hr⟩:=hf i hlt
 rw[hc'] at hi;cases hi
 exact⟨f i,by simp[hlt],hr⟩
theorem heap_set_self {H:Heap} {b:Nat} {x:Blk} (h:H[b]?=some x):H.set b x=H:=by
 apply List.ext_getElem?
 intro i
 by_cases e:i=b
 ·subst e;rw[List.getElem?_set_self (List.getElem?_eq_some_iff.1 h).1,h]
 ·rw[List.getElem?_set_ne (by omega)]
theorem put_length (cs:List Cell):∀(xs:List Cell) (o:Nat),(put cs o xs).length=cs.length:=by
 intro xs
 induction xs generalizing cs with
 |nil=>intro o;rfl
 |cons x xs ih=>intro o;simp[put,ih]
theorem run_store1 {P:Program} {w:World} {a:Addr} {u v:Value} (h:w.cell? a=some u) (hf:w.frozen? a=false) (hv:v.oneCell'=true):(store a v).run P w=.ok () (w.setCell a v):=by
 rw[run_store P w a v _ hv,h]
 simp[hf]
theorem Rel.stores_aux {b o:Nat} {gr:Option Nat}:∀(xs:List Cell) (vs:List Value) (i:Nat) (cs:List Cell) (H:Heap) (w:World),Rel K m base H w→H[b]?=some (.cells cs false gr)→o+i+xs.length≤cs.length→RL m H.length xs vs→
  ∃w',(storeCells (adr m (b,o)) vs i).run K.P w=.ok () w'∧Rel K m base (H.set b (.cells (put cs (o+i) xs) false gr)) w'∧Below base w w':=by
 intro xs
 induction xs with
 |nil=>
  intro vs i cs H w hR hb hl hv
  cases hv
  exact⟨w,rfl,by rw[put,heap_set_self hb];exact hR,Below.refl _ _⟩
 |cons x xs ih=>
  intro vs i cs H w hR hb hl hv
  cases hv with
  |@cons _ v _ vs hx hv=>
   simp only[List.length_cons] at hl
   obtain⟨⟨u,hu⟩,hf,hR',hB⟩:=hR.store (o:=o+i) (c:=x) (v:=v) hb (by omega) hx
   have hlt:b<H.length:=(List.getElem?_eq_some_iff.1 hb).1
   obtain⟨w',h1,h2,h3⟩:=ih vs (i+1) (cs.set (o+i) x) _ _ hR' (List.getElem?_set_self hlt) (by simp;omega) (by rw[List.length_set];exact hv)
   refine⟨w',?_,?_,hB.trans h3⟩
   ·simp only[storeCells,Sem.run_bind]
    rw[adr_add,show addA (b,o) i=(b,o+i) from rfl,run_store1 hu hf hx.oneCell']
    exact h1
   ·rw[List.set_set] at h2
    exact h2
theorem Rel.stores (hR:Rel K m base H w) {a:Ad} {xs:List Cell} {vs:List Value} {H':Heap} (h:H.st a xs=some H') (hv:RL m H.length xs vs):
  ∃w',(storeCells (adr m a) vs).run K.P w=.ok () w'∧Rel K m base H' w'∧Below base w w'∧H'.length=H.length:=by
 unfold Heap.st at h
 split at h
 ·rename_i cs gr hb
  split at h
  ·rename_i hl
   cases h
   obtain⟨w',h1,h2,h3⟩:=Rel.stores_aux (b:=a.1) (o:=a.2) xs vs 0 cs H w hR hb (by omega) hv
   exact⟨w',h1,h2,h3,by simp⟩
  ·cases h
 ·cases h
def Good (K:Ctx) (base:Nat) (m:Inj) (H:Heap) (w:World) (r:Result Next):AN × Heap→Prop
 |(.v x,H')=>∃m' w',((∃v,r=.ok (.value v) w'∧x.R m' H'.length v)∨(r=.ok .skip w'∧x=.undef))∧Rel K m' base H' w'∧Later m H.length m' H'.length∧Below base w w'
 |(.call f args,H')=>H'=H∧∃vs:Array Value,r=(callFunc f vs).run K.P w∧All2 (V.R m H.length) args vs.toList
 |(.yld l args,H')=>H'=H∧l<H.length∧∃vs:Array Value,r=(Instr.yield (m l).blk vs).run K.P w∧All2 (V.R m H.length) args vs.toList
theorem Good.val (hR:Rel K m base H w) {x:V} {v:Value} (hx:x.R m H.length v):Good K base m H w (.ok (.value v) w) (.v x,H):=
 ⟨m,w,.inl ⟨v,rfl,hx⟩,hR,Later.refl _ _,Below.refl _ _⟩
theorem Rel.fresh (hR:Rel K m base H w) {cs:List Cell} {vs:Array Value} (T:TypeId) (h:RL m H.length cs vs.toList) (gr:Option Nat):
  Rel K (upd m H.length ⟨w.heap.size,0,0⟩) base (H++[.cells cs false gr]) (w.alloc (.cells vs T)):=by
 refine hR.alloc 0 ⟨vs,T,(0,0),heap_alloc_new _ _,?_,fun _=>⟨hR.size,rfl⟩,fun sz _=>?_⟩ rfl
 ·intro i c hi
  obtain⟨v,hv,hr⟩:=h.get hi
  exact⟨v,by simpa using hv,hr.later (upd_later _ _ _)⟩
 ·have:=h.length;simp at this;simp[this]
theorem adr_new (m:Inj) (n:Nat) (b e:Nat):adr (upd m n ⟨b,0,e⟩) (n,0)=⟨b,0,none⟩:=by simp[adr,upd]
theorem Good.fresh_ptr (hR:Rel K m base H w) {cs:List Cell} {vs:Array Value} (T:TypeId) (h:RL m H.length cs vs.toList):
  Good K base m H w (.ok (.value (.pointer (some ⟨w.heap.size,0,none⟩))) (w.alloc (.cells vs T))) (.v (.c (.ptr (some (H.length,0)))),H++[.cells cs false none]):=by
 refine⟨_,_,.inl ⟨_,rfl,?_⟩,hR.fresh T h none,by rw[List.length_append];exact upd_later _ _ _,(Below.refl _ _).alloc hR.size _⟩
 exact⟨by simp,by rw[ptrV,adr_new]⟩
def Ops (K:Ctx) (m:Inj) (n:Nat) (ρ:X→V) (ρc:Operand→Value):Prop:=∀x X,cX K.G x=some X→(ρ X).R m n (ρc x)
theorem run_v {P:Program} {w:World} (s:Sem Value):(do pure (Next.value (←s)):Sem Next).run P w=(s.run P w).andThen fun v w'=>.ok (.value v) w':=by
 simp
theorem run_u {P:Program} {w:World} (s:Sem Unit):(do s;pure Next.skip:Sem Next).run P w=(s.run P w).andThen fun _ w'=>.ok .skip w':=by
 simp
theorem adOf_R {m:Inj} {n:Nat} {x:V} {v:Value} {a:Ad} (h:adOf x=some a) (hx:x.R m n v):v=.pointer (some (adr m a))∧a.1<n:=by
 unfold adOf at h
 split at h
 ·cases h;exact⟨hx.2,hx.1⟩
 ·cases h
theorem rdOf_spec {P:Program} {T:TypeId} {n:Option Nat} (h:rdOf P T=some n):
  match n with
  |none=>∃d,P.underlying T=some d∧(∀fs,d≠.struct fs)∧(∀k e,d≠.array k e)
  |some n=>∃d i,P.underlying T=some d∧P.info? T=some i∧i.size=n∧((∃fs,d=.struct fs)∨∃k e,d=.array k e):=by
 unfold rdOf at h
 split at h
 ·rename_i fs i h1 h2;cases h;exact⟨_,i,h1,h2,rfl,.inl ⟨_,rfl⟩⟩
 ·rename_i k e i h1 h2;cases h;exact⟨_,i,h1,h2,rfl,.inr ⟨_,_,rfl⟩⟩
 ·rename_i d i h1 h2 h3 h4
  cases h
  exact⟨d,h3,fun fs e=>h1 fs e,fun k e e'=>h2 k e e'⟩
 ·cases h
theorem run_isAgg_no {P:Program} {T:TypeId} {d:TypeDesc} (h:P.underlying T=some d) (h1:∀fs,d≠.struct fs) (h2:∀k e,d≠.array k e) (w:World):(isAgg T).run P w=.ok false w:=by
 unfold isAgg
 rw[Sem.run_bind,run_underlying h,Result.andThen_ok]
 cases d<;>first|rfl|exact absurd rfl (h1 _)|exact absurd rfl (h2 _ _)
theorem run_isAgg_yes {P:Program} {T:TypeId} {d:TypeDesc} (h:P.underlying T=some d) (h1:(∃fs,d=.struct fs)∨∃k e,d=.array k e) (w:World):(isAgg T).run P w=.ok true w:=by
 unfold isAgg
 rw[Sem.run_bind,run_underlying h,Result.andThen_ok]
 rcases h1 with ⟨fs,rfl⟩|⟨k,e,rfl⟩<;>rfl
theorem run_size {P:Program} {T:TypeId} {i:TypeInfo} (h:P.info? T=some i) (w:World):(sizeOf T).run P w=.ok i.size w:=by
 simp[sizeOf,typeInfo,h]
theorem run_szOf {P:Program} {T:TypeId} {n:Nat} (h:szOf P T=some n) (w:World):(sizeOf T).run P w=.ok n w:=by
 unfold szOf at h
 cases hi:P.info? T with
 |none=>simp[hi] at h
 |some i=>simp[hi] at h;subst h;exact run_size hi w
theorem run_zOf {P:Program} {T:TypeId} {z:V} (h:zOf P T=some z) (w:World):∃v,(zeroValue T).run P w=.ok v w∧vOf v=some z:=by
 unfold zOf at h
 cases hi:P.info? T with
 |none=>simp[hi] at h
 |some i=>
  cases hz:i.zero with
  |none=>simp[hi,hz] at h
  |some v=>simp[hi,hz] at h;exact⟨v,by simp[zeroValue,typeInfo,hi,hz],h⟩
theorem Rel.loadVar (hR:Rel K m base H w) {T:TypeId} {a:Ad} {n:Option Nat} (hT:rdOf K.P T=some n) {x:V}
  (h:H.rd a n=some x):∃v,(Go.loadVar T (adr m a)).run K.P w=.ok v w∧x.R m H.length v:=by
 have hs:=rdOf_spec hT
 unfold Go.loadVar
 cases n with
 |none=>
  obtain⟨d,h1,h2,h3⟩:=hs
  cases hc:H.ld a with
  |none=>simp[Heap.rd,hc] at h
  |some c=>
   simp[Heap.rd,hc] at h;subst h
   obtain⟨v,hv,hr⟩:=hR.cell hc
   refine⟨v,?_,hr⟩
   rw[Sem.run_bind,run_isAgg_no h1 h2 h3,Result.andThen_ok]
   simp[hv]
 |some n=>
  obtain⟨d,i,h1,h2,rfl,h4⟩:=hs
  cases hc:H.ldn a i.size with
  |none=>simp[Heap.rd,hc] at h
  |some l=>
   simp[Heap.rd,hc] at h;subst h
   obtain⟨vs,hv,hr⟩:=hR.loads hc
   refine⟨.agg vs,?_,vs,rfl,hr⟩
   rw[Sem.run_bind,run_isAgg_yes h1 h4,Result.andThen_ok]
   simp[run_size h2,hv w rfl]
theorem V.R.size {m:Inj} {n:Nat} {x:V} {v:Value} {l:List Cell} (h:x.R m n v) (hc:x.cells=some l):v.cells.size=l.length:=by
 have:=(h.cells hc).length
 simp at this
 omega
theorem good_ld (hR:Rel K m base H w) {ρ:X→V} {ρc:Operand→Value} (hρ:Ops K m H.length ρ ρc) {T:TypeId} {x:Operand} {x':X} {n:Option Nat} (hx:cX K.G x=some x') (hT:rdOf K.P T=some n) {r:AN × Heap}
  (h:aop ρ (.ld n x') H=some r):Good K base m H w ((do pure (Next.value (←Instr.loadAt T (ρc x))):Sem Next).run K.P w) r:=by
 simp only[aop] at h
 cases ha:adOf (ρ x') with
 |none=>simp[ha] at h
 |some a=>
  obtain⟨hv,ha'⟩:=adOf_R ha (hρ x x' hx)
  rw[ha,Option.bind_some] at h
  cases hy:H.rd a n with
  |none=>simp[hy] at h
  |some y=>
  simp[hy] at h;subst h
  obtain⟨v,h1,h2⟩:=hR.loadVar hT hy
  rw[run_v,hv]
  simp only[Instr.loadAt,Instr.sureAddr,Sem.run_bind,Sem.run_pure,Result.andThen_ok,h1]
  exact Good.val hR h2
theorem good_st (hR:Rel K m base H w) {ρ:X→V} {ρc:Operand→Value} (hρ:Ops K m H.length ρ ρc) {T:TypeId} {a x:Operand} {a' x':X} {n:Nat} (ha:cX K.G a=some a') (hx:cX K.G x=some x') (hT:szOf K.P T=some n) {r:AN × Heap}
  (h:aop ρ (.st n a' x') H=some r):Good K base m H w ((do Instr.storeAt T (ρc a) (ρc x);pure Next.skip:Sem Next).run K.P w) r:=by
 simp only[aop] at h
 cases hd:adOf (ρ a') with
 |none=>simp[hd] at h
 |some d=>
  cases hc:(ρ x').cells with
  |none=>simp[hd,hc] at h
  |some cs=>
   simp only[hd,hc,Option.bind_some] at h
   split at h
   ·rename_i hn
    cases hs:H.st d cs with
    |none=>simp[hs] at h
    |some H'=>
     simp[hs] at h;subst h
     obtain⟨hv,_⟩:=adOf_R hd (hρ a a' ha)
     have hxR:=hρ x x' hx
     obtain⟨w',h1,h2,h3,h4⟩:=hR.stores hs (hxR.cells hc)
     rw[run_u,hv]
     have:(Instr.storeAt T (.pointer (some (adr m d))) (ρc x)).run K.P w=.ok () w':=by
      simp only[Instr.storeAt,Instr.sureAddr,Sem.run_bind,Sem.run_pure,Result.andThen_ok,storeVar,run_szOf hT,hxR.size hc,hn]
      simp[h1]
     rw[this]
     exact⟨m,w',.inr ⟨rfl,rfl⟩,h2,by rw[h4];exact Later.refl _ _,h3⟩
   ·cases h
end
end Go.Proofs.YtjcgdcadflplcaaDoor.AM
/- AM, fifth text: more operations: making, literals, numbers. -/
namespace Go.Proofs.YtjcgdcadflplcaaDoor.AM
open Go Go.RowKit
section
variable {K:Ctx} {m:Inj} {base:Nat} {H:Heap} {w:World} {ρ:X→V} {ρc:Operand→Value} {r:AN × Heap}
theorem good_mv (hR:Rel K m base H w) (hρ:Ops K m H.length ρ ρc) {x:Operand} {x':X} (hx:cX K.G x=some x') (h:aop ρ (.mv x') H=some r):
  Good K base m H w (.ok (.value (ρc x)) w) r:=by
 simp only[aop,Option.some.injEq] at h
 subst h
 exact Good.val hR (hρ x x' hx)
theorem V.R_bool {m:Inj} {n:Nat} {b:Bool} {v:Value} (h:(V.c (.bool b)).R m n v):v=.bool b:=h
theorem V.R_int {m:Inj} {n:Nat} {k:IntKind} {i:Int} {v:Value} (h:(V.c (.int k i)).R m n v):v=.int k i:=h
theorem good_pick (hR:Rel K m base H w) (hρ:Ops K m H.length ρ ρc) {c a b:Operand} {c' a' b':X} (hc:cX K.G c=some c') (ha:cX K.G a=some a') (hb:cX K.G b=some b') (h:aop ρ (.pick c' a' b') H=some r):
  Good K base m H w ((do pure (Next.value (if ←asBool (ρc c) then ρc a else ρc b)):Sem Next).run K.P w) r:=by
 simp only[aop] at h
 split at h
 ·rename_i t ht
  cases h
  have hv:=hρ c c' hc
  rw[ht] at hv
  rw[V.R_bool hv]
  simp only[asBool,Sem.run_bind,Sem.run_pure,Result.andThen_ok]
  cases t
  ·exact Good.val hR (hρ b b' hb)
  ·exact Good.val hR (hρ a a' ha)
 ·cases h
theorem run_newVar (P:Program) (w:World) (T:TypeId) (v:Value):(newVar T v).run P w=.ok ⟨w.heap.size,0,none⟩ (w.alloc (.cells v.cells T)):=by
 simp[newVar,newRow]
theorem run_newRow (P:Program) (w:World) (T:TypeId) (cs:Array Value):(newRow T cs).run P w=.ok ⟨w.heap.size,0,none⟩ (w.alloc (.cells cs T)):=by
 simp[newRow]
theorem good_new (hR:Rel K m base H w) {T:TypeId} {z:V} (hz:zOf K.P T=some z) (h:aop ρ (.new T z) H=some r):
  Good K base m H w ((do pure (Next.value (←Instr.alloc T true (.tuple #[]))):Sem Next).run K.P w) r:=by
 simp only[aop] at h
 cases hc:z.cells with
 |none=>simp[hc] at h
 |some cs=>
  simp[hc] at h;subst h
  obtain⟨v,h1,h2⟩:=run_zOf hz w
  rw[run_v]
  simp only[Instr.alloc,Sem.run_bind,h1,Result.andThen_ok,run_newVar,Sem.run_pure]
  exact Good.fresh_ptr hR T ((vOf_R h2 m H.length).cells hc)
theorem good_box (hR:Rel K m base H w) (hρ:Ops K m H.length ρ ρc) {T:TypeId} {x:Operand} {x':X} (hx:cX K.G x=some x') (h:aop ρ (.box T x') H=some r):
  Good K base m H w ((do pure (Next.value (←Instr.box T (ρc x))):Sem Next).run K.P w) r:=by
 simp only[aop] at h
 cases hc:(ρ x').cells with
 |none=>simp[hc] at h
 |some cs=>
  simp[hc] at h;subst h
  rw[run_v]
  simp only[Instr.box,Sem.run_bind,Result.andThen_ok,run_newVar,Sem.run_pure]
  exact Good.fresh_ptr hR T ((hρ x x' hx).cells hc)
theorem RL_put {m:Inj} {n:Nat}:∀{xs:List Cell} {vs:List Value} (_:RL m n xs vs) (o:Nat) {cs:List Cell} {C:Array Value},RL m n cs C.toList→
  RL m n (put cs o xs) ((vs.zipIdx o).foldl (fun cs (c,j)=>cs.setIfInBounds j c) C).toList:=by
 intro xs vs h
 induction h with
 |nil=>intro o cs C hC;exact hC
 |cons hx _ ih=>
  intro o cs C hC
  simp only[put,List.zipIdx_cons,List.foldl_cons]
  refine ih (o+1) ?_
  rw[Array.toList_setIfInBounds]
  exact hC.set hx
theorem foldl_shift (vs:List Value) (o s:Nat) (C:Array Value):
  (vs.zipIdx s).foldl (fun cs (c,j)=>cs.setIfInBounds (o+j) c) C=(vs.zipIdx (o+s)).foldl (fun cs (c,j)=>cs.setIfInBounds j c) C:=by
 induction vs generalizing s C with
 |nil=>rfl
 |cons v vs ih=>
  simp only[List.zipIdx_cons,List.foldl_cons]
  rw[ih (s+1)]
  rfl
theorem fill_R {m:Inj} {n:Nat} {place:Nat→Option (Nat × Nat)}:∀(ps:List (Nat × Value)) (qs:List (Nat × Nat × V)),All2 (fun(p:Nat × Value) (q:Nat × Nat × V)=>place p.1=some (q.1,q.2.1)∧q.2.2.R m n p.2) ps qs→
  ∀(cs:List Cell) (C:Array Value) (l:List Cell),RL m n cs C.toList→fillB cs qs=some l→∃D,Instr.fill place C ps=some D∧RL m n l D.toList:=by
 intro ps qs h
 induction h with
 |nil=>intro cs C l hC hl;simp[fillB] at hl;subst hl;exact⟨C,rfl,hC⟩
 |@cons p q ps qs hp _ ih=>
  intro cs C l hC hl
  obtain⟨hp1,hp2⟩:=hp
  obtain⟨i,v⟩:=p
  obtain⟨o,s,x⟩:=q
  simp only[fillB] at hl
  split at hl
  ·rename_i xs hxs
   split at hl
   ·rename_i hlen
    have hv:=hp2.cells hxs
    have hsz:=hp2.size hxs
    have hCl:=hC.length
    simp at hCl hsz
    have:=hlen.1
    obtain⟨D,h1,h2⟩:=ih (put cs o xs) ((v.cells.toList.zipIdx o).foldl (fun cs (c,j)=>cs.setIfInBounds j c) C) l (RL_put hv o hC) hl
    refine⟨D,?_,h2⟩
    simp only[Instr.fill,hp1]
    rw[if_neg (by simp;omega)]
    rw[←h1,←Array.foldl_toList,Array.toList_zipIdx]
    congr 1
    exact(foldl_shift _ _ 0 _)
   ·cases hl
  ·cases hl
theorem places_R {m:Inj} {n:Nat} (hρ:Ops K m n ρ ρc) {at_:Nat→Option (Nat × Nat)}:∀{ps:List (Nat × Operand)} {qs:List (Nat × Nat × X)},places K.P K.G at_ ps=some qs→
  All2 (fun(p:Nat × Value) (q:Nat × Nat × V)=>at_ p.1=some (q.1,q.2.1)∧q.2.2.R m n p.2) (ps.map fun p=>(p.1,ρc p.2)) (qs.map fun q=>(q.1,q.2.1,ρ q.2.2)):=by
 intro ps
 induction ps with
 |nil=>intro qs h;simp[places] at h;subst h;exact .nil
 |cons p ps ih=>
  intro qs h
  obtain⟨i,x⟩:=p
  simp only[places] at h
  cases h1:at_ i with
  |none=>simp[h1] at h
  |some q=>
   cases h2:cX K.G x with
   |none=>simp[h1,h2] at h
   |some y=>
    cases h3:places K.P K.G at_ ps with
    |none=>simp[h1,h2,h3] at h
    |some qs'=>simp[h1,h2,h3] at h;subst h;exact .cons ⟨h1,hρ x y h2⟩ (ih h3)
theorem fields_mapM {P:Program} {w:World} (fs:List Field) (h:∀f∈fs,∃i,P.info? f.type=some i):
  (fs.mapM fun f=>do pure (f.offset,←sizeOf f.type):Sem (List (Nat × Nat))).run P w=.ok (fs.map fun f=>(f.offset,(szOf P f.type).getD 0)) w:=by
 induction fs with
 |nil=>simp
 |cons f fs ih=>
  obtain⟨i,hi⟩:=h f (by simp)
  rw[List.mapM_cons]
  simp only[Sem.run_bind,run_size hi,Result.andThen_ok,Sem.run_pure,ih (fun f hf=>h f (by simp[hf]))]
  simp[szOf,hi]
theorem good_build_struct (hR:Rel K m base H w) (hρ:Ops K m H.length ρ ρc) {T:TypeId} {fs:Array Field} (hu:K.P.underlying T=some (.struct fs)) (hfs:fs.toList.all (fun f=>(K.P.info? f.type).isSome)=true)
  {z:V} (hz:zOf K.P T=some z) {zc:List Cell} (hzc:z.cells=some zc) {ps:Array (Nat × Operand)} {qs:List (Nat × Nat × X)} (hp:places K.P K.G (fieldsAt K.P fs) ps.toList=some qs) (h:aop ρ (.build zc qs) H=some r):
  Good K base m H w ((do pure (Next.value (←Instr.build T (ps.map fun(i,x)=>(i,ρc x)))):Sem Next).run K.P w) r:=by
 simp only[aop] at h
 cases hf:fillB zc (qs.map fun p=>(p.1,p.2.1,ρ p.2.2)) with
 |none=>simp[hf] at h
 |some cs=>
  simp[hf] at h;subst h
  obtain⟨v,h1,h2⟩:=run_zOf hz w
  have hzR:=(vOf_R h2 m H.length).cells hzc
  have hpl:=places_R hρ hp
  have hmap:(fs.mapM fun f=>do pure (f.offset,←sizeOf f.type):Sem (Array (Nat × Nat))).run K.P w=.ok (fs.map fun f=>(f.offset,(szOf K.P f.type).getD 0)) w:=by
   have:=fields_mapM (P:=K.P) (w:=w) fs.toList (fun f hf=>by
    have:=List.all_eq_true.1 hfs f hf
    exact Option.isSome_iff_exists.1 this)
   rw[Array.mapM_eq_mapM_toList]
   simp only[Sem.run_map,this,Result.andThen_ok]
   simp[←Array.toList_map]
  have hplace:∀i p,fieldsAt K.P fs i=some p→((fs.map fun f=>(f.offset,(szOf K.P f.type).getD 0))[i]?:Option (Nat × Nat))=some p:=by
   intro i p hp
   unfold fieldsAt at hp
   cases hi:fs[i]? with
   |none=>simp[hi] at hp
   |some f=>
    cases hs:szOf K.P f.type with
    |none=>simp[hi,hs] at hp
    |some n=>simp[hi,hs] at hp;subst hp;simp[hi,hs]
  obtain⟨D,h3,h4⟩:=fill_R (place:=((fs.map fun f=>(f.offset,(szOf K.P f.type).getD 0))[·]?)) _ _ (hpl.imp fun p q hh=>⟨hplace _ _ hh.1,hh.2⟩) zc v.cells cs hzR hf
  rw[run_v]
  have:(Instr.build T (ps.map fun(i,x)=>(i,ρc x))).run K.P w=.ok (.agg D) w:=by
   unfold Instr.build
   simp only[Sem.run_bind,h1,Result.andThen_ok,run_underlying hu,hmap,Sem.run_map]
   have e:(ps.map fun(i,x)=>(i,ρc x)).toList=ps.toList.map fun p=>(p.1,ρc p.2):=by simp
   rw[e,h3]
   rfl
  rw[this]
  exact Good.val hR ⟨D,rfl,h4⟩
theorem good_build_array (hR:Rel K m base H w) (hρ:Ops K m H.length ρ ρc) {T e:TypeId} {k n:Nat} (hu:K.P.underlying T=some (.array k e)) (hn:szOf K.P e=some n)
  {z:V} (hz:zOf K.P T=some z) {zc:List Cell} (hzc:z.cells=some zc) {ps:Array (Nat × Operand)} {qs:List (Nat × Nat × X)} (hp:places K.P K.G (fun i=>some (i * n,n)) ps.toList=some qs) (h:aop ρ (.build zc qs) H=some r):
  Good K base m H w ((do pure (Next.value (←Instr.build T (ps.map fun(i,x)=>(i,ρc x)))):Sem Next).run K.P w) r:=by
 simp only[aop] at h
 cases hf:fillB zc (qs.map fun p=>(p.1,p.2.1,ρ p.2.2)) with
 |none=>simp[hf] at h
 |some cs=>
  simp[hf] at h;subst h
  obtain⟨v,h1,h2⟩:=run_zOf hz w
  have hzR:=(vOf_R h2 m H.length).cells hzc
  have hpl:=places_R hρ hp
  obtain⟨D,h3,h4⟩:=fill_R (place:=fun i=>some (i * n,n)) _ _ hpl zc v.cells cs hzR hf
  rw[run_v]
  have:(Instr.build T (ps.map fun(i,x)=>(i,ρc x))).run K.P w=.ok (.agg D) w:=by
   unfold Instr.build
   simp only[Sem.run_bind,h1,Result.andThen_ok,run_underlying hu,run_szOf hn]
   have e:(ps.map fun(i,x)=>(i,ρc x)).toList=ps.toList.map fun p=>(p.1,ρc p.2):=by simp
   rw[e,h3]
   rfl
  rw[this]
  exact Good.val hR ⟨D,rfl,h4⟩
theorem grows_length (z:List Cell) (n:Nat):(grows z n).length=n * z.length:=by
 simp[grows]
theorem grows_get (z:List Cell):∀(n i:Nat),i<n * z.length→(grows z n)[i]?=z[i % z.length]?
 |0,i,h=>by simp at h
 |n+1,i,h=>by
  have e:grows z (n+1)=z++grows z n:=by simp[grows,List.replicate_succ]
  rw[e]
  by_cases hi:i<z.length
  ·rw[List.getElem?_append_left hi,Nat.mod_eq_of_lt hi]
  ·rw[List.getElem?_append_right (by omega),grows_get z n (i-z.length) (by rw[Nat.add_mul] at h;omega)]
   congr 1
   rw[←Nat.mod_eq_sub_mod (by omega)]
theorem getD_bang {α:Type} [Inhabited α] (a:Array α) (i:Nat) (v:α) (h:a.toList[i]?=some v):a[i]! = v:=by
 simp at h
 simp[getElem!_def,h]
theorem RL_grows {m:Inj} {n:Nat} {z:List Cell} {zero:Array Value} (hz:RL m n z zero.toList) (k:Nat):
  RL m n (grows z k) ((Array.range (k * z.length)).map (fun i=>zero[i % zero.size]!)).toList:=by
 have hl:=hz.length
 simp at hl
 refine All2.of_get (by simp[grows_length]) fun i c hi=>?_
 have hlt:i<k * z.length:=by have:=(List.getElem?_eq_some_iff.1 hi).1;rwa [grows_length] at this
 rw[grows_get z k i hlt] at hi
 obtain⟨v,hv,hr⟩:=hz.get hi
 refine⟨v,?_,hr⟩
 simp only[Array.toList_map,Array.toList_range,List.getElem?_map,List.getElem?_range hlt,Option.map_some]
 rw[←hl,getD_bang _ _ _ hv]
theorem Good.fresh_sl (hR:Rel K m base H w) {cs:List Cell} {vs:Array Value} (T:TypeId) (h:RL m H.length cs vs.toList) (n c:Nat) (hnc:n≤c):
  Good K base m H w (.ok (.value (.slice (some ⟨w.heap.size,0,none⟩) n c)) (w.alloc (.cells vs T))) (.v (.c (.sl (some (H.length,0)) n c false)),H++[.cells cs false none]):=by
 refine⟨_,_,.inl ⟨_,rfl,?_⟩,hR.fresh T h none,by rw[List.length_append];exact upd_later _ _ _,(Below.refl _ _).alloc hR.size _⟩
 exact⟨by simp,hnc,_,_,rfl,by simp,.inl (by rw[adr_new])⟩
theorem good_bsl (hR:Rel K m base H w) (hρ:Ops K m H.length ρ ρc) {T e:TypeId} {len n:Nat} (hu:K.P.underlying T=some (.slice e)) (hn:szOf K.P e=some n)
  {z:V} (hz:zOf K.P e=some z) {zc:List Cell} (hzc:z.cells=some zc) (hlen:zc.length=n∧len * n≤2 ^ 24) {ps:Array (Nat × Operand)} {qs:List (Nat × Nat × X)} (hp:places K.P K.G (fun i=>some (i * n,n)) ps.toList=some qs)
  (h:aop ρ (.bsl e len (grows zc len) qs) H=some r):
  Good K base m H w ((do pure (Next.value (←Instr.buildSlice T len (ps.map fun(i,x)=>(i,ρc x)))):Sem Next).run K.P w) r:=by
 simp only[aop] at h
 cases hf:fillB (grows zc len) (qs.map fun p=>(p.1,p.2.1,ρ p.2.2)) with
 |none=>simp[hf] at h
 |some cs=>
  simp[hf] at h;subst h
  obtain⟨v,h1,h2⟩:=run_zOf hz w
  have hzR:=(vOf_R h2 m H.length).cells hzc
  have hpl:=places_R hρ hp
  obtain⟨hl1,hl2⟩:=hlen
  subst hl1
  have e':(ps.map fun(i,x)=>(i,ρc x)).toList=ps.toList.map fun p=>(p.1,ρc p.2):=by simp
  obtain⟨D,h4,this⟩:∃D:Array Value,RL m H.length cs D.toList∧(Instr.buildSlice T len (ps.map fun(i,x)=>(i,ρc x))).run K.P w=.ok (.slice (some ⟨w.heap.size,0,none⟩) len len) (w.alloc (.cells D e)):=by
   by_cases h0:len * zc.length=0
   ·have hZ2:RL m H.length (grows zc len) ((Array.range (len * zc.length)).map (fun i=>(#[]:Array Value)[i % (#[]:Array Value).size]!)).toList:=by
     have:(grows zc len).length=0:=by rw[grows_length];exact h0
     rw[List.length_eq_zero_iff.1 this,h0]
     exact(show RL m H.length [] ((Array.range 0).map _).toList from by simpa using All2.nil)
    obtain⟨D,h3,h4⟩:=fill_R (place:=fun i=>some (i * zc.length,zc.length)) _ _ hpl (grows zc len) _ cs hZ2 hf
    refine⟨D,h4,?_⟩
    unfold Instr.buildSlice
    simp only[Sem.run_bind,run_underlying hu,Result.andThen_ok,run_szOf hn]
    rw[if_neg (by omega),if_pos h0,e']
    simp only[Sem.run_bind,Sem.run_pure,Result.andThen_ok]
    rw[h3]
    simp[run_newRow]
   ·obtain⟨D,h3,h4⟩:=fill_R (place:=fun i=>some (i * zc.length,zc.length)) _ _ hpl (grows zc len) _ cs (RL_grows hzR len) hf
    refine⟨D,h4,?_⟩
    unfold Instr.buildSlice
    simp only[Sem.run_bind,run_underlying hu,Result.andThen_ok,run_szOf hn]
    rw[if_neg (by omega),if_neg h0,e']
    simp only[Sem.run_bind,Sem.run_pure,Result.andThen_ok,h1]
    rw[h3]
    simp[run_newRow]
  rw[run_v,this]
  exact Good.fresh_sl hR e h4 len len (Nat.le_refl _)
end
end Go.Proofs.YtjcgdcadflplcaaDoor.AM
/- AM, sixth text: numbers, comparisons, places, parts. -/
namespace Go.Proofs.YtjcgdcadflplcaaDoor.AM
open Go Go.RowKit
section
variable {K:Ctx} {m:Inj} {base:Nat} {H:Heap} {w:World} {ρ:X→V} {ρc:Operand→Value} {r:AN × Heap}
theorem binI_run {P:Program} {w:World} {op:BinOp} {T:TypeId} {k k':IntKind} {x y:Int} {c:Cell} (h:binI op k x k' y=some c) (m:Inj) (n:Nat):
  ∃v,(binOp op T (.int k x) (.int k' y)).run P w=.ok v w∧c.R m n v:=by
 by_cases hs:op=.shl∨op=.shr
 ·rcases hs with rfl|rfl<;>simp only[binI] at h<;>split at h<;>simp at h<;>subst h<;>rename_i hy
  ·exact⟨_,by simp[binOp,Op.shift,hy],rfl⟩
  ·exact⟨_,by simp[binOp,Op.shift,hy],rfl⟩
 ·have h1:op≠.shl:=fun e=>hs (.inl e)
  have h2:op≠.shr:=fun e=>hs (.inr e)
  have hk:k=k':=by
   cases op<;>simp[binI] at h h1 h2<;>first|exact h.1|exact h
  subst hk
  cases op<;>simp[binI] at h h1 h2<;>first
   |(subst h;exact⟨_,by simp[binOp,Op.intArith]<;>rfl,rfl⟩)
   |(subst h;exact⟨_,by simp[binOp,intBits_and,intBits_or,intBits_xor,intBits_andNot]<;>rfl,rfl⟩)
   |(subst h;exact⟨_,by simp[binOp,Op.intCmp]<;>rfl,rfl⟩)
   |(obtain⟨h0,rfl⟩:=h;exact⟨_,by simp[binOp,Op.intDiv,h0]<;>rfl,rfl⟩)
theorem eqGuard_cells (op:BinOp) (T:TypeId) (x y:Operand) {a b:Value} (ha:∀cs,a≠.agg cs) (hn:a≠.nilIface):eqGuard op T x y a b=pure ():=by
 cases a<;>first|exact absurd rfl (ha _)|exact absurd rfl hn|(cases op<;>rfl)
theorem binC_run {P:Program} {w:World} {op:BinOp} {T:TypeId} {x y c:Cell} (h:binC op x y=some c) {m:Inj} {n:Nat} {a b:Value} (hx:x.R m n a) (hy:y.R m n b):
  ∃v,(binOp op T a b).run P w=.ok v w∧c.R m n v∧(∀cs,a≠.agg cs)∧a≠.nilIface:=by
 unfold binC at h
 split at h
 ·rename_i k i k' j
  cases hx;cases hy
  obtain⟨v,h1,h2⟩:=binI_run (P:=P) (w:=w) (T:=T) h m n
  exact⟨v,h1,h2,by simp,by simp⟩
 ·rename_i s t
  cases hx;cases hy
  split at h
  ·cases h;exact⟨_,by simp[binOp,Op.stringOp]<;>rfl,rfl,by simp,by simp⟩
  ·cases h;exact⟨_,by simp[binOp,Op.stringOp]<;>rfl,rfl,by simp,by simp⟩
  ·split at h
   ·cases h
   ·rename_i hle
    cases h;exact⟨_,by simp only[binOp,Op.stringOp];rw[if_neg hle];rfl,rfl,by simp,by simp⟩
  ·cases h
 ·cases h
theorem run_bin {P:Program} {w:World} {op:BinOp} {T:TypeId} {x y:Operand} {a b v:Value} (ha:∀cs,a≠.agg cs) (hn:a≠.nilIface) (h:(binOp op T a b).run P w=.ok v w):
  (do pure (Next.value (←(do eqGuard op T x y a b;binOp op T a b))):Sem Next).run P w=.ok (.value v) w:=by
 rw[run_v,eqGuard_cells op T x y ha hn]
 simp[h]
theorem good_bin (hR:Rel K m base H w) (hρ:Ops K m H.length ρ ρc) {op:BinOp} {T:TypeId} {x y:Operand} {x' y':X} (hx:cX K.G x=some x') (hy:cX K.G y=some y') (h:aop ρ (.bin op x' y') H=some r):
  Good K base m H w ((do pure (Next.value (←(do eqGuard op T x y (ρc x) (ρc y);binOp op T (ρc x) (ρc y)))):Sem Next).run K.P w) r:=by
 simp only[aop] at h
 have hxR:=hρ x x' hx
 have hyR:=hρ y y' hy
 split at h
 ·rename_i a b ha hb
  cases hc:binC op a b with
  |none=>simp[hc] at h
  |some c=>
   simp[hc] at h;subst h
   rw[ha] at hxR
   rw[hb] at hyR
   obtain⟨v,h1,h2,h3,h4⟩:=binC_run (P:=K.P) (w:=w) (T:=T) hc (m:=m) (n:=H.length) hxR hyR
   rw[run_bin h3 h4 h1]
   exact Good.val hR (show (V.c c).R m H.length v from h2)
 ·cases h
theorem equal_of {P:Program} {w:World} {T:TypeId} {d:TypeDesc} (h:P.underlying T=some d) {a b:Value} {t:Bool}
  (he:(match d,a,b with
   |.bool,.bool a,.bool b=>some (a == b)
   |.pointer _,.pointer none,.pointer b=>some b.isNone
   |.pointer _,.pointer _,.pointer none=>some false
   |.slice _,.slice none _ _,.slice b _ _=>some b.isNone
   |.slice _,.slice _ _ _,.slice none _ _=>some false
   |.map _ _,.map none,.map b=>some b.isNone
   |.map _ _,.map _,.map none=>some false
   |.func _ _ _,.nilFunc,.nilFunc=>some true
   |.func _ _ _,.nilFunc,.func _ _ _|.func _ _ _,.func _ _ _,.nilFunc=>some false
   |_,_,_=>none)=some t):(Op.equal T a b).run P w=.ok t w:=by
 unfold Op.equal Op.maxDepth
 rw[Op.equalIn,Sem.run_bind,run_underlying h,Result.andThen_ok]
 split at he<;>first|(cases he;done)|(cases he;first|rfl|simp)
def EK.fits:EK→TypeDesc→Prop
 |.bool,d=>d=.bool
 |.ptr,d=>∃e,d=.pointer e
 |.sl,d=>∃e,d=.slice e
 |.map,d=>∃a b,d=.map a b
 |.fn,d=>∃a b c,d=.func a b c
theorem ptr_R {m:Inj} {n:Nat} {a:Option Ad} {v:Value} (h:(Cell.ptr a).R m n v):∃p:Option Addr,v=.pointer p∧p.isNone=a.isNone∧(a=none→p=none):=by
 cases a with
 |none=>exact⟨none,h,rfl,fun _=>rfl⟩
 |some a=>exact⟨_,h.2,rfl,by simp⟩
theorem sl_R {m:Inj} {n:Nat} {a:Option Ad} {k c:Nat} {o:Bool} {v:Value} (h:(Cell.sl a k c o).R m n v):∃(p:Option Addr) (c':Nat),v=.slice p k c'∧p.isNone=a.isNone∧(a=none→p=none):=by
 cases a with
 |none=>obtain⟨rfl,_,_,rfl⟩:=h;exact⟨none,0,rfl,rfl,fun _=>rfl⟩
 |some a=>obtain⟨_,_,A,c',rfl,_⟩:=h;exact⟨some A,c',rfl,rfl,by simp⟩
theorem map_R {m:Inj} {n:Nat} {a:Option Nat} {v:Value} (h:(Cell.map a).R m n v):∃p:Option Nat,v=.map p∧p.isNone=a.isNone∧(a=none→p=none):=by
 cases a with
 |none=>exact⟨none,h,rfl,fun _=>rfl⟩
 |some a=>exact⟨_,h.2,rfl,by simp⟩
theorem eqC_run {P:Program} {w:World} {k:EK} {T:TypeId} {d:TypeDesc} (hd:P.underlying T=some d) (hk:k.fits d) {x y:Cell} {t:Bool} (h:eqC k x y=some t)
  {m:Inj} {n:Nat} {a b:Value} (hx:x.R m n a) (hy:y.R m n b):(Op.equal T a b).run P w=.ok t w:=by
 unfold eqC at h
 split at h
 ·cases hx;cases hy;cases hk;cases h;exact equal_of hd rfl
 ·obtain⟨e,rfl⟩:=hk
  obtain⟨p,rfl,hp,hp'⟩:=ptr_R hx
  obtain⟨q,rfl,hq,hq'⟩:=ptr_R hy
  cases hp' rfl;cases h
  exact equal_of hd (by simp[←hq])
 ·rename_i z _
  obtain⟨e,rfl⟩:=hk
  obtain⟨p,rfl,hp,hp'⟩:=ptr_R hx
  obtain⟨q,rfl,hq,hq'⟩:=ptr_R hy
  cases hq' rfl;cases h
  refine equal_of hd ?_
  cases p with
  |none=>cases z<;>simp_all
  |some p=>rfl
 ·obtain⟨e,rfl⟩:=hk
  obtain⟨p,_,rfl,hp,hp'⟩:=sl_R hx
  obtain⟨q,_,rfl,hq,hq'⟩:=sl_R hy
  cases hp' rfl;cases h
  exact equal_of hd (by simp[←hq])
 ·rename_i z _ _ _ _ _ _ _
  obtain⟨e,rfl⟩:=hk
  obtain⟨p,_,rfl,hp,hp'⟩:=sl_R hx
  obtain⟨q,_,rfl,hq,hq'⟩:=sl_R hy
  cases hq' rfl;cases h
  refine equal_of hd ?_
  cases p with
  |none=>cases z<;>simp_all
  |some p=>rfl
 ·obtain⟨e,f,rfl⟩:=hk
  obtain⟨p,rfl,hp,hp'⟩:=map_R hx
  obtain⟨q,rfl,hq,hq'⟩:=map_R hy
  cases hp' rfl;cases h
  exact equal_of hd (by simp[←hq])
 ·rename_i z _
  obtain⟨e,f,rfl⟩:=hk
  obtain⟨p,rfl,hp,hp'⟩:=map_R hx
  obtain⟨q,rfl,hq,hq'⟩:=map_R hy
  cases hq' rfl;cases h
  refine equal_of hd ?_
  cases p with
  |none=>cases z<;>simp_all
  |some p=>rfl
 ·obtain⟨e,f,g,rfl⟩:=hk
  cases hx;cases hy;cases h;exact equal_of hd rfl
 ·obtain⟨e,f,g,rfl⟩:=hk
  cases hx;obtain⟨_,_,rfl⟩:=hy;cases h;exact equal_of hd rfl
 ·obtain⟨e,f,g,rfl⟩:=hk
  obtain⟨_,_,rfl⟩:=hx;cases hy;cases h;exact equal_of hd rfl
 ·cases h
theorem run_eql {P:Program} {w:World} {T:TypeId} {x y:Operand} {a b:Value} {t:Bool} (ha:∀cs,a≠.agg cs) (hn:a≠.nilIface) (hi:∀k n,a≠.int k n) (hs:∀s,a≠.string s) (hf:∀k n,a≠.float k n) (hc:∀k n l,a≠.complex k n l)
  (h:(Op.equal T a b).run P w=.ok t w) {op:BinOp} (hop:op=.eql∨op=.neq):
  (do pure (Next.value (←(do eqGuard op T x y a b;binOp op T a b))):Sem Next).run P w=.ok (.value (.bool (t != (op == .neq)))) w:=by
 refine run_bin ha hn ?_
 have e1:binOp .eql T a b=(do pure (.bool (←Op.equal T a b))):=by
  cases a<;>first|rfl|exact absurd rfl (hi _ _)|exact absurd rfl (hs _)|exact absurd rfl (hf _ _)|exact absurd rfl (hc _ _ _)
 have e2:binOp .neq T a b=(do pure (.bool (!(←Op.equal T a b)))):=by
  cases a<;>first|rfl|exact absurd rfl (hi _ _)|exact absurd rfl (hs _)|exact absurd rfl (hf _ _)|exact absurd rfl (hc _ _ _)
 rcases hop with rfl|rfl
 ·rw[e1];simp[h]<;>(cases t<;>rfl)
 ·rw[e2];simp[h]<;>(cases t<;>rfl)
theorem good_eq (hR:Rel K m base H w) (hρ:Ops K m H.length ρ ρc) {op:BinOp} (hop:op=.eql∨op=.neq) {k:EK} {T:TypeId} {d:TypeDesc} (hd:K.P.underlying T=some d) (hk:k.fits d)
  {x y:Operand} {x' y':X} (hx:cX K.G x=some x') (hy:cX K.G y=some y') (h:aop ρ (.eq k (op == .neq) x' y') H=some r):
  Good K base m H w ((do pure (Next.value (←(do eqGuard op T x y (ρc x) (ρc y);binOp op T (ρc x) (ρc y)))):Sem Next).run K.P w) r:=by
 simp only[aop] at h
 have hxR:=hρ x x' hx
 have hyR:=hρ y y' hy
 split at h
 ·rename_i a b ha hb
  cases hc:eqC k a b with
  |none=>simp[hc] at h
  |some t=>
   simp[hc] at h;subst h
   rw[ha] at hxR
   rw[hb] at hyR
   have he:=eqC_run (P:=K.P) (w:=w) hd hk hc (m:=m) (n:=H.length) hxR hyR
   have hxR':a.R m H.length (ρc x):=hxR
   have hform:(∀cs,ρc x≠.agg cs)∧ρc x≠.nilIface∧(∀k n,ρc x≠.int k n)∧(∀s,ρc x≠.string s)∧(∀k n,ρc x≠.float k n)∧(∀k n l,ρc x≠.complex k n l):=by
    unfold eqC at hc
    split at hc<;>first
     |(cases hc;done)
     |(obtain⟨_,e,_⟩:=ptr_R hxR';simp[e];done)
     |(obtain⟨_,_,e,_⟩:=sl_R hxR';simp[e];done)
     |(obtain⟨_,e,_⟩:=map_R hxR';simp[e];done)
     |(obtain⟨_,_,e⟩:=hxR';simp[e];done)
     |(have e:ρc x=.bool _:=hxR';simp[e];done)
     |(have e:ρc x=.nilFunc:=hxR';simp[e];done)
   obtain⟨h1,h2,h3,h4,h5,h6⟩:=hform
   rw[run_eql h1 h2 h3 h4 h5 h6 he hop]
   exact Good.val hR (show (V.c (.bool _)).R m H.length _ from rfl)
 ·cases h
theorem good_un (hR:Rel K m base H w) (hρ:Ops K m H.length ρ ρc) {op:UnOp} {x:Operand} {x':X} (hx:cX K.G x=some x') (h:aop ρ (.un op x') H=some r):
  Good K base m H w ((do pure (Next.value (←Op.unary op (ρc x))):Sem Next).run K.P w) r:=by
 simp only[aop] at h
 have hxR:=hρ x x' hx
 split at h
 ·rename_i a ha
  cases hc:unC op a with
  |none=>simp[hc] at h
  |some c=>
   simp[hc] at h;subst h
   rw[ha] at hxR
   have key:∃v,(Op.unary op (ρc x)).run K.P w=.ok v w∧c.R m H.length v:=by
    unfold unC at hc
    split at hc
    ·rename_i k n
     rw[V.R_int hxR]
     split at hc
     ·cases hc;exact⟨_,by simp[Op.unary,Op.intArith]<;>rfl,rfl⟩
     ·cases hc;exact⟨_,by simp[Op.unary,intBits_xor]<;>rfl,rfl⟩
     ·cases hc
    ·rename_i b
     rw[V.R_bool hxR]
     split at hc
     ·cases hc;exact⟨_,by simp[Op.unary]<;>rfl,rfl⟩
     ·cases hc
    ·cases hc
   obtain⟨v,h1,h2⟩:=key
   rw[run_v,h1]
   exact Good.val hR (show (V.c c).R m H.length v from h2)
 ·cases h
theorem good_cv (hR:Rel K m base H w) (hρ:Ops K m H.length ρ ρc) {s d:TypeId} {ks k:IntKind} (hs:K.P.underlying s=some (.int ks)) (hd:K.P.underlying d=some (.int k)) {x:Operand} {x':X} (hx:cX K.G x=some x') (h:aop ρ (.cv k x') H=some r):
  Good K base m H w ((do pure (Next.value (←convert s d (ρc x))):Sem Next).run K.P w) r:=by
 simp only[aop] at h
 have hxR:=hρ x x' hx
 split at h
 ·rename_i k' n ha
  cases h
  rw[ha] at hxR
  rw[V.R_int hxR,run_v]
  simp only[convert,Sem.run_bind,run_underlying hs,run_underlying hd,Result.andThen_ok,Conv.intToInt,Sem.run_pure]
  exact Good.val hR (show (V.c (.int _ _)).R m H.length _ from rfl)
 ·cases h
end
end Go.Proofs.YtjcgdcadflplcaaDoor.AM
/- AM, seventh text: places, slices, parts, calls. -/
namespace Go.Proofs.YtjcgdcadflplcaaDoor.AM
open Go Go.RowKit
section
variable {K:Ctx} {m:Inj} {base:Nat} {H:Heap} {w:World} {ρ:X→V} {ρc:Operand→Value} {r:AN × Heap}
theorem good_fa (hR:Rel K m base H w) (hρ:Ops K m H.length ρ ρc) {T:TypeId} {fs:Array Field} (hu:K.P.underlying T=some (.struct fs)) {i:Nat} {f:Field} (hf:fs[i]?=some f) {n:Nat} (hn:szOf K.P f.type=some n) (h0:n≠0)
  {x:Operand} {x':X} (hx:cX K.G x=some x') (h:aop ρ (.fa f.offset x') H=some r):
  Good K base m H w ((do pure (Next.value (←Instr.fieldAt T (ρc x) i)):Sem Next).run K.P w) r:=by
 simp only[aop] at h
 cases ha:adOf (ρ x') with
 |none=>simp[ha] at h
 |some a=>
  simp[ha] at h;subst h
  obtain⟨hv,hl⟩:=adOf_R ha (hρ x x' hx)
  rw[run_v,hv]
  have:(Instr.fieldAt T (.pointer (some (adr m a))) i).run K.P w=.ok (ptrV m (addA a f.offset)) w:=by
   unfold Instr.fieldAt
   simp only[Sem.run_bind,run_underlying hu,Result.andThen_ok,hf,Instr.sureAddr,Sem.run_pure,fieldPlace,run_szOf hn]
   rw[if_neg h0,adr_add]
   rfl
  rw[this]
  exact Good.val hR (show (V.c (.ptr _)).R m H.length _ from ⟨hl,rfl⟩)
theorem run_part {P:Program} {T:TypeId} {n:Option Nat} (hT:rdOf P T=some n) {m:Inj} {k:Nat} {cs:List Cell} {C:Array Value} (hC:RL m k cs C.toList) {off:Nat} {x:V}
  (h:prd cs off n=some x) (w:World):∃v,(part T C off).run P w=.ok v w∧x.R m k v:=by
 have hs:=rdOf_spec hT
 unfold part
 cases n with
 |none=>
  obtain⟨d,h1,h2,h3⟩:=hs
  cases hc:cs[off]? with
  |none=>simp[prd,hc] at h
  |some c=>
   simp[prd,hc] at h;subst h
   obtain⟨v,hv,hr⟩:=hC.get hc
   simp at hv
   refine⟨v,?_,hr⟩
   rw[Sem.run_bind,run_isAgg_no h1 h2 h3,Result.andThen_ok]
   simp[hv]
 |some n=>
  obtain⟨d,i,h1,h2,rfl,h4⟩:=hs
  cases hc:sub cs off i.size with
  |none=>simp[prd,hc] at h
  |some l=>
   simp[prd,hc] at h;subst h
   refine⟨.agg (C.extract off (off+i.size)),?_,_,rfl,?_⟩
   ·rw[Sem.run_bind,run_isAgg_yes h1 h4,Result.andThen_ok]
    simp[run_size h2]
   ·unfold sub at hc
    split at hc
    ·cases hc
     rw[Array.toList_extract,List.extract_eq_take_drop]
     have:=(hC.drop off).take i.size
     simpa using this
    ·cases hc
theorem good_fld (hR:Rel K m base H w) (hρ:Ops K m H.length ρ ρc) {T:TypeId} {fs:Array Field} (hu:K.P.underlying T=some (.struct fs)) {i:Nat} {f:Field} (hf:fs[i]?=some f) {n:Option Nat} (hn:rdOf K.P f.type=some n)
  {x:Operand} {x':X} (hx:cX K.G x=some x') (h:aop ρ (.fld f.offset n x') H=some r):
  Good K base m H w ((do pure (Next.value (←Instr.field T (ρc x) i)):Sem Next).run K.P w) r:=by
 simp only[aop] at h
 have hxR:=hρ x x' hx
 split at h
 ·rename_i cs hcs
  rw[hcs] at hxR
  obtain⟨C,hC1,hC2⟩:=hxR
  cases hy:prd cs f.offset n with
  |none=>simp[hy] at h
  |some y=>
  simp[hy] at h;subst h
  obtain⟨v,h1,h2⟩:=run_part hn hC2 hy w
  rw[run_v,hC1]
  have:(Instr.field T (.agg C) i).run K.P w=.ok v w:=by
   unfold Instr.field
   simp only[Sem.run_bind,run_underlying hu,Result.andThen_ok,hf,asAgg,Sem.run_pure,h1]
  rw[this]
  exact Good.val hR h2
 ·cases h
theorem asI_R {m:Inj} {n:Nat} {x:V} {v:Value} {i:Int} (h:asI x=some i) (hx:x.R m n v):∃k,v=.int k i:=by
 unfold asI at h
 split at h
 ·cases h;exact⟨_,hx⟩
 ·cases h
theorem good_iaS (hR:Rel K m base H w) (hρ:Ops K m H.length ρ ρc) {T e:TypeId} (hu:K.P.underlying T=some (.slice e)) {n:Nat} (hn:szOf K.P e=some n)
  {x i:Operand} {x' i':X} (hx:cX K.G x=some x') (hi:cX K.G i=some i') (h:aop ρ (.iaS n x' i') H=some r):
  Good K base m H w ((do pure (Next.value (←Instr.indexAt T (ρc x) (ρc i))):Sem Next).run K.P w) r:=by
 simp only[aop] at h
 have hxR:=hρ x x' hx
 split at h
 ·rename_i a k c o ha
  rw[ha] at hxR
  obtain⟨hl,hkc,A,c',hv,hc',hA⟩:=hxR
  cases hii:asI (ρ i') with
  |none=>simp[hii] at h
  |some j=>
   simp only[hii,Option.bind_some] at h
   split at h
   ·rename_i hj
    cases h
    obtain⟨ki,hiv⟩:=asI_R hii (hρ i i' hi)
    have hA':A=adr m a:=by
     rcases hA with hA|h0
     ·exact hA
     ·exfalso
      have:c=0:=by split at hc'<;>omega
      omega
    rw[run_v,hv,hiv]
    have:(Instr.indexAt T (.slice (some A) k c') (.int ki j)).run K.P w=.ok (ptrV m (addA a (j.toNat * n))) w:=by
     unfold Instr.indexAt
     simp only[asIntOf,Sem.run_bind,Sem.run_pure,Result.andThen_ok,run_underlying hu]
     rw[if_pos hj]
     simp only[Sem.run_bind,run_szOf hn,Result.andThen_ok,Sem.run_pure,hA',adr_add]
     rfl
    rw[this]
    exact Good.val hR (show (V.c (.ptr _)).R m H.length _ from ⟨hl,rfl⟩)
   ·cases h
 ·cases h
theorem good_iaA (hR:Rel K m base H w) (hρ:Ops K m H.length ρ ρc) {T e:TypeId} {k:Nat} (hu:K.P.underlying T=some (.array k e)) {n:Nat} (hn:szOf K.P e=some n)
  {x i:Operand} {x' i':X} (hx:cX K.G x=some x') (hi:cX K.G i=some i') (h:aop ρ (.iaA k n x' i') H=some r):
  Good K base m H w ((do pure (Next.value (←Instr.indexAt T (ρc x) (ρc i))):Sem Next).run K.P w) r:=by
 simp only[aop] at h
 cases ha:adOf (ρ x') with
 |none=>simp[ha] at h
 |some a=>
  obtain⟨hv,hl⟩:=adOf_R ha (hρ x x' hx)
  cases hii:asI (ρ i') with
  |none=>simp[ha,hii] at h
  |some j=>
   simp only[ha,hii,Option.bind_some] at h
   split at h
   ·rename_i hj
    cases h
    obtain⟨ki,hiv⟩:=asI_R hii (hρ i i' hi)
    rw[run_v,hv,hiv]
    have:(Instr.indexAt T (.pointer (some (adr m a))) (.int ki j)).run K.P w=.ok (ptrV m (addA a (j.toNat * n))) w:=by
     unfold Instr.indexAt
     simp only[asIntOf,Sem.run_bind,Sem.run_pure,Result.andThen_ok,run_underlying hu,Instr.sureAddr]
     rw[if_pos hj]
     simp only[Sem.run_bind,run_szOf hn,Result.andThen_ok,Sem.run_pure,adr_add]
     rfl
    rw[this]
    exact Good.val hR (show (V.c (.ptr _)).R m H.length _ from ⟨hl,rfl⟩)
   ·cases h
theorem good_ix (hR:Rel K m base H w) (hρ:Ops K m H.length ρ ρc) {T e:TypeId} {k:Nat} (hu:K.P.underlying T=some (.array k e)) {n:Nat} (hn:szOf K.P e=some n) {rd:Option Nat} (hrd:rdOf K.P e=some rd)
  {x i:Operand} {x' i':X} (hx:cX K.G x=some x') (hi:cX K.G i=some i') (h:aop ρ (.ix k n rd x' i') H=some r):
  Good K base m H w ((do pure (Next.value (←Instr.index T (ρc x) (ρc i))):Sem Next).run K.P w) r:=by
 simp only[aop] at h
 have hxR:=hρ x x' hx
 split at h
 ·rename_i cs hcs
  rw[hcs] at hxR
  obtain⟨C,hC1,hC2⟩:=hxR
  cases hii:asI (ρ i') with
  |none=>simp[hii] at h
  |some j=>
   simp only[hii,Option.bind_some] at h
   split at h
   ·rename_i hj
    obtain⟨ki,hiv⟩:=asI_R hii (hρ i i' hi)
    cases hy:prd cs (j.toNat * n) rd with
    |none=>simp[hy] at h
    |some y=>
    simp[hy] at h;subst h
    obtain⟨v,h1,h2⟩:=run_part hrd hC2 hy w
    rw[run_v,hC1,hiv]
    have:(Instr.index T (.agg C) (.int ki j)).run K.P w=.ok v w:=by
     unfold Instr.index
     simp only[asIntOf,Sem.run_bind,Sem.run_pure,Result.andThen_ok,run_underlying hu]
     rw[if_pos hj]
     simp only[Sem.run_bind,run_szOf hn,Result.andThen_ok,h1]
    rw[this]
    exact Good.val hR h2
   ·cases h
 ·cases h
theorem good_ixT (hR:Rel K m base H w) (hρ:Ops K m H.length ρ ρc) {T:TypeId} (hu:K.P.underlying T=some .string)
  {x i:Operand} {x' i':X} (hx:cX K.G x=some x') (hi:cX K.G i=some i') (h:aop ρ (.ixT x' i') H=some r):
  Good K base m H w ((do pure (Next.value (←Instr.index T (ρc x) (ρc i))):Sem Next).run K.P w) r:=by
 simp only[aop] at h
 have hxR:=hρ x x' hx
 split at h
 ·rename_i s hs
  rw[hs] at hxR
  have hxv:ρc x=.string s:=hxR
  cases hii:asI (ρ i') with
  |none=>simp[hii] at h
  |some j=>
   simp only[hii,Option.bind_some] at h
   split at h
   ·rename_i hj
    obtain⟨ki,hiv⟩:=asI_R hii (hρ i i' hi)
    cases hb:s.data[j.toNat]? with
    |none=>simp[hb] at h
    |some b=>
     simp[hb] at h;subst h
     rw[run_v,hxv,hiv]
     have hsb:s[j.toNat]?=some b:=by
      obtain⟨hlt,he⟩:=Array.getElem?_eq_some_iff.1 hb
      have hlt':j.toNat<s.size:=hlt
      rw[getElem?_pos s j.toNat hlt']
      exact congrArg some he
     have:(Instr.index T (.string s) (.int ki j)).run K.P w=.ok (.int .u8 b.toNat) w:=by
      unfold Instr.index
      simp only[asIntOf,Sem.run_bind,Sem.run_pure,Result.andThen_ok,run_underlying hu]
      rw[if_pos hj,hsb]
      rfl
     rw[this]
     exact Good.val hR (show (V.c (.int _ _)).R m H.length _ from rfl)
   ·cases h
 ·cases h
theorem good_ext (hR:Rel K m base H w) (hρ:Ops K m H.length ρ ρc) {i:Nat} {x:Operand} {x':X} (hx:cX K.G x=some x') (h:aop ρ (.ext x' i) H=some r):
  Good K base m H w ((do pure (Next.value (←Instr.extract (ρc x) i)):Sem Next).run K.P w) r:=by
 simp only[aop] at h
 have hxR:=hρ x x' hx
 split at h
 ·rename_i l hl
  rw[hl] at hxR
  obtain⟨C,hC1,hC2⟩:=hxR
  cases hc:l[i]? with
  |none=>simp[hc] at h
  |some p=>
   simp[hc] at h;subst h
   obtain⟨v,hv,hr⟩:=hC2.get hc
   simp at hv
   rw[run_v,hC1]
   simp only[Instr.extract,hv,Sem.run_pure,Result.andThen_ok]
   exact Good.val hR (Pc.R_v.2 hr)
 ·cases h
theorem good_nilck (hR:Rel K m base H w) (hρ:Ops K m H.length ρ ρc) {x:Operand} {x':X} (hx:cX K.G x=some x') (h:aop ρ (.nilck x') H=some r) {o:Oper} (ho:o.op=.nilCheck x):
  Good K base m H w ((execOp ρc o).run K.P w) r:=by
 simp only[aop] at h
 have hxR:=hρ x x' hx
 split at h
 ·rename_i a ha
  cases h
  rw[ha] at hxR
  have hv:ρc x=ptrV m a:=hxR.2
  have:(execOp ρc o).run K.P w=.ok (.value (ptrV m a)) w:=by
   simp only[execOp,ho,hv,ptrV,Sem.run_pure]
  rw[this]
  exact Good.val hR (show (V.c (.ptr _)).R m H.length _ from ⟨hxR.1,rfl⟩)
 ·rename_i f g k ha
  cases h
  rw[ha] at hxR
  obtain⟨h1,h2,h3⟩:=hxR
  have:(execOp ρc o).run K.P w=.ok (.value (ρc x)) w:=by
   simp only[execOp,ho,h3,Sem.run_pure]
  rw[this]
  exact Good.val hR (show (V.c (.fn _ _ _)).R m H.length _ from ⟨h1,h2,h3⟩)
 ·cases h
theorem cXs_R {n:Nat} (hρ:Ops K m n ρ ρc):∀{xs:List Operand} {ys:List X},cXs K.G xs=some ys→All2 (V.R m n) (ys.map ρ) (xs.map ρc):=by
 intro xs
 induction xs with
 |nil=>intro ys h;simp[cXs] at h;subst h;exact .nil
 |cons x xs ih=>
  intro ys h
  simp only[cXs] at h
  cases h1:cX K.G x with
  |none=>simp[h1] at h
  |some y=>
   cases h2:cXs K.G xs with
   |none=>simp[h1,h2] at h
   |some l=>simp[h1,h2] at h;subst h;exact .cons (hρ x y h1) (ih h2)
theorem adsOf_R {n:Nat}:∀{l:List V} {az:List Ad} {vs:List Value},adsOf l=some az→All2 (V.R m n) l vs→vs=az.map (ptrV m)∧∀a∈az,a.1<n:=by
 intro l
 induction l with
 |nil=>intro az vs h hv;simp[adsOf] at h;subst h;cases hv;exact⟨rfl,by simp⟩
 |cons x l ih=>
  intro az vs h hv
  cases hv with
  |@cons _ v _ vs hx hv=>
   simp only[adsOf,List.mapM_cons] at h
   cases h1:adOf x with
   |none=>simp[h1] at h
   |some a=>
    cases h2:l.mapM adOf with
    |none=>simp[h1,h2] at h
    |some as'=>
     simp[h1,h2] at h;subst h
     obtain⟨e,hl⟩:=adOf_R h1 hx
     obtain⟨e',hl'⟩:=ih h2 hv
     subst e e'
     exact⟨rfl,by intro b hb;cases hb with|head=>exact hl|tail _ hb=>exact hl' b hb⟩
theorem good_mkfn (hR:Rel K m base H w) (hρ:Ops K m H.length ρ ρc) {f:FuncId} {fs cs:Array Operand} {fs' cs':List X} (hf:cXs K.G fs.toList=some fs') (hc:cXs K.G cs.toList=some cs') (h:aop ρ (.mkfn f fs' cs') H=some r):
  Good K base m H w ((do pure (Next.value (←Instr.makeFunc (.func f) (fs.map ρc) (cs.map ρc))):Sem Next).run K.P w) r:=by
 simp only[aop] at h
 cases h1:adsOf (fs'.map ρ) with
 |none=>simp[h1] at h
 |some a=>
  cases h2:adsOf (cs'.map ρ) with
  |none=>simp[h1,h2] at h
  |some b=>
   simp[h1,h2] at h;subst h
   obtain⟨e1,l1⟩:=adsOf_R h1 (cXs_R hρ hf)
   obtain⟨e2,l2⟩:=adsOf_R h2 (cXs_R hρ hc)
   rw[run_v]
   simp only[Instr.makeFunc,Sem.run_pure,Result.andThen_ok]
   refine Good.val hR (show (V.c (.fn _ _ _)).R m H.length _ from ⟨l1,l2,?_⟩)
   rw[←e1,←e2,←Array.toList_map,←Array.toList_map,Array.toArray_toList,Array.toArray_toList]
theorem ptrs_V {n:Nat} {l:List Ad} (h:∀a∈l,a.1<n):All2 (V.R m n) (l.map pV) (l.map (ptrV m)):=by
 induction l with
 |nil=>exact .nil
 |cons a l ih=>exact .cons ⟨h a (by simp),rfl⟩ (ih fun b hb=>h b (by simp[hb]))
theorem good_call (hR:Rel K m base H w) (hρ:Ops K m H.length ρ ρc) {f:Operand} {args:Array Operand} {ts:Array TypeId} {ty:TypeId} {f':X} {args':List X} (hf:cX K.G f=some f') (ha:cXs K.G args.toList=some args') (h:aop ρ (.call f' args') H=some r):
  Good K base m H w ((do let d ←resolve ρc { callee:=.value f,args,argTypes:=ts } ty;invoke d.target d.args:Sem Next).run K.P w) r:=by
 simp only[aop] at h
 have hfR:=hρ f f' hf
 have haR:=cXs_R hρ ha
 split at h
 ·rename_i g fs cs hg
  cases h
  rw[hg] at hfR
  obtain⟨l1,l2,e⟩:=hfR
  refine⟨rfl,(fs.map (ptrV m)).toArray++args.map ρc++(cs.map (ptrV m)).toArray,?_,?_⟩
  ·simp only[resolve,e,Deferred.ofValue,Sem.run_bind,Sem.run_pure,Result.andThen_ok,invoke]
  ·simp only[Array.toList_append]
   refine All2.append (All2.append (ptrs_V l1) ?_) (ptrs_V l2)
   simpa using haR
 ·rename_i l hl
  cases h
  rw[hl] at hfR
  obtain⟨l1,e⟩:=hfR
  refine⟨rfl,l1,args.map ρc,?_,by simpa using haR⟩
  simp only[resolve,e,Deferred.ofValue,Sem.run_bind,Sem.run_pure,Result.andThen_ok,invoke]
  simp
 ·cases h
theorem good_len (hR:Rel K m base H w) (hρ:Ops K m H.length ρ ρc) {ts:Array TypeId} {T ty:TypeId} {d:TypeDesc} {cn:Array Bool} (hT:ts[0]?=some T) (hu:K.P.underlying T=some d) {str:Bool} (hd:(str=true∧d=.string)∨(str=false∧∃e,d=.slice e))
  {x:Operand} {x':X} (hx:cX K.G x=some x') (h:aop ρ (.len str x') H=some r):
  Good K base m H w ((builtin .len ts ty cn #[ρc x]).run K.P w) r:=by
 simp only[aop] at h
 have hxR:=hρ x x' hx
 have e0:(#[ρc x]:Array Value)[0]?=some (ρc x):=rfl
 unfold builtin
 simp only[]
 split at h
 ·rename_i s hs
  cases h
  rw[hs] at hxR
  have hv:ρc x=.string s:=hxR
  obtain⟨_,rfl⟩|⟨h0,_⟩:=hd
  ·rw[run_v]
   simp only[Builtin.len_,hT,e0]
   simp only[Sem.run_bind,run_underlying hu,Result.andThen_ok,hv,Sem.run_pure]
   exact Good.val hR (show (V.c (.int _ _)).R m H.length _ from rfl)
  ·cases h0
 ·rename_i a n c o hs
  cases h
  rw[hs] at hxR
  obtain⟨p,c',hv,_,_⟩:=sl_R hxR
  obtain⟨h0,_⟩|⟨_,e,rfl⟩:=hd
  ·cases h0
  ·rw[run_v]
   simp only[Builtin.len_,hT,e0]
   simp only[Sem.run_bind,run_underlying hu,Result.andThen_ok,hv,Sem.run_pure]
   exact Good.val hR (show (V.c (.int _ _)).R m H.length _ from rfl)
 ·cases h
end
end Go.Proofs.YtjcgdcadflplcaaDoor.AM
/- AM, eighth text: slices cut, made, appended to, copied, cleared. -/
namespace Go.Proofs.YtjcgdcadflplcaaDoor.AM
open Go Go.RowKit
section
variable {K:Ctx} {m:Inj} {base:Nat} {H:Heap} {w:World} {ρ:X→V} {ρc:Operand→Value} {r:AN × Heap}
theorem run_sliceBound {P:Program} {w:World} {k:IntKind} {i:Int} {y:Nat} {code:BoundsCode} (h:0≤i∧i≤y):(Instr.sliceBound (.int k i) y code).run P w=.ok i.toNat w:=by
 unfold Instr.sliceBound
 simp only[asIntOf,Sem.run_bind,Sem.run_pure,Result.andThen_ok]
 rw[if_pos h]
 rfl
theorem bnd_R {m:Inj} {n:Nat} {x:V} {v:Value} {t l:Nat} {d:Nat} (h:bnd (some x) d t=some l) (hx:x.R m n v):∃k i,v=.int k i∧0≤i∧i≤t∧i.toNat=l∧l≤t:=by
 unfold bnd at h
 cases ha:asI x with
 |none=>simp[ha] at h
 |some i=>
  simp only[ha,Option.bind_some] at h
  split at h
  ·rename_i hi
   cases h
   obtain⟨k,rfl⟩:=asI_R ha hx
   exact⟨k,i,rfl,hi.1,hi.2,rfl,by omega⟩
  ·cases h
theorem cXo_R {n:Nat} (hρ:Ops K m n ρ ρc) {x:Option Operand} {y:Option X} (h:cXo K.G x=some y):(x=none∧y=none)∨∃a b,x=some a∧y=some b∧(ρ b).R m n (ρc a):=by
 cases x with
 |none=>simp[cXo] at h;exact .inl ⟨rfl,h.symm⟩
 |some a=>
  simp only[cXo] at h
  cases hc:cX K.G a with
  |none=>simp[hc] at h
  |some b=>simp[hc] at h;subst h;exact .inr ⟨a,b,rfl,rfl,hρ a b hc⟩
theorem bnds_R {n0:Nat} (hρ:Ops K m n0 ρ ρc) {isSlice:Bool} {n c c':Nat} (hcc:c≤c') {lo hi mx:Option Operand} {lo' hi' mx':Option X} (hlo:cXo K.G lo=some lo') (hhi:cXo K.G hi=some hi') (hmx:cXo K.G mx=some mx')
  {l h q:Nat} (hb:bnds n c (lo'.map ρ) (hi'.map ρ) (mx'.map ρ)=some (l,h,q)) (hnc:n≤c) (P:Program) (w:World):
  (Instr.sliceBounds isSlice n c' (lo.map ρc) (hi.map ρc) (mx.map ρc)).run P w=.ok (l,h,if mx'.isNone then c' else q) w∧l≤h∧h≤q∧q≤c∧(mx'.isNone=true→q=c):=by
 have hM:=cXo_R hρ hmx
 have hH:=cXo_R hρ hhi
 have hL:=cXo_R hρ hlo
 have hb0:(hi'.map ρ=none∧(mx'.map ρ).isSome=true)∨¬(hi'.map ρ=none∧(mx'.map ρ).isSome=true):=Classical.em _
 rcases hb0 with ⟨h1,h2⟩|hnot
 ·obtain⟨z,hz⟩:=Option.isSome_iff_exists.1 h2
  simp[bnds,h1,hz] at hb
 have hb':((bnd (mx'.map ρ) c c).bind fun q=>(bnd (hi'.map ρ) n q).bind fun h=>(bnd (lo'.map ρ) 0 h).map fun l=>(l,h,q))=some (l,h,q):=by
  unfold bnds at hb
  split at hb
  ·cases hb
  ·exact hb
 cases hq:bnd (mx'.map ρ) c c with
 |none=>simp[hq] at hb'
 |some q0=>
  cases hh:bnd (hi'.map ρ) n q0 with
  |none=>simp[hq,hh] at hb'
  |some h0=>
   cases hl:bnd (lo'.map ρ) 0 h0 with
   |none=>simp[hq,hh,hl] at hb'
   |some l0=>
    simp[hq,hh,hl] at hb'
    obtain⟨rfl,rfl,rfl⟩:=hb'
    have up:∀{v:V} {u:Value} {d t z t':Nat},bnd (some v) d t=some z→v.R m n0 u→t≤t'→z≤t∧∀code,(Instr.sliceBound u t' code).run P w=.ok z w:=by
     intro v u d t z t' hb hv ht
     obtain⟨k,i,e,h1,h2,h3,h4⟩:=bnd_R hb hv
     subst h3
     exact⟨h4,fun code=>by rw[e];exact run_sliceBound ⟨h1,by omega⟩⟩
    rcases hM with ⟨rfl,rfl⟩|⟨a,b,rfl,rfl,hab⟩
    ·simp[bnd] at hq;subst hq
     rcases hH with ⟨rfl,rfl⟩|⟨a2,b2,rfl,rfl,hab2⟩
     ·simp[bnd] at hh;subst hh
      rcases hL with ⟨rfl,rfl⟩|⟨a3,b3,rfl,rfl,hab3⟩
      ·simp[bnd] at hl;subst hl
       exact⟨rfl,Nat.zero_le _,hnc,Nat.le_refl _,fun _=>rfl⟩
      ·obtain⟨u1,u2⟩:=up hl hab3 (Nat.le_refl _)
       exact⟨by simp only[Instr.sliceBounds,Option.map_none,Option.map_some,Sem.run_bind,Sem.run_pure,Result.andThen_ok,u2];rfl,u1,hnc,Nat.le_refl _,fun _=>rfl⟩
     ·obtain⟨v1,v2⟩:=up hh hab2 hcc
      rcases hL with ⟨rfl,rfl⟩|⟨a3,b3,rfl,rfl,hab3⟩
      ·simp[bnd] at hl;subst hl
       exact⟨by simp only[Instr.sliceBounds,Option.map_none,Option.map_some,Sem.run_bind,Sem.run_pure,Result.andThen_ok,v2];rfl,Nat.zero_le _,v1,Nat.le_refl _,fun _=>rfl⟩
      ·obtain⟨u1,u2⟩:=up hl hab3 (Nat.le_refl _)
       exact⟨by simp only[Instr.sliceBounds,Option.map_none,Option.map_some,Sem.run_bind,Sem.run_pure,Result.andThen_ok,v2,u2];rfl,u1,v1,Nat.le_refl _,fun _=>rfl⟩
    ·obtain⟨t1,t2⟩:=up hq hab hcc
     rcases hH with ⟨rfl,rfl⟩|⟨a2,b2,rfl,rfl,hab2⟩
     ·exact absurd ⟨rfl,rfl⟩ hnot
     ·obtain⟨v1,v2⟩:=up hh hab2 (Nat.le_refl _)
      rcases hL with ⟨rfl,rfl⟩|⟨a3,b3,rfl,rfl,hab3⟩
      ·simp[bnd] at hl;subst hl
       exact⟨by simp only[Instr.sliceBounds,Option.map_none,Option.map_some,Sem.run_bind,Sem.run_pure,Result.andThen_ok,t2,v2];rfl,Nat.zero_le _,v1,t1,fun h=>by simp at h⟩
      ·obtain⟨u1,u2⟩:=up hl hab3 (Nat.le_refl _)
       exact⟨by simp only[Instr.sliceBounds,Option.map_none,Option.map_some,Sem.run_bind,Sem.run_pure,Result.andThen_ok,t2,v2,u2];rfl,u1,v1,t1,fun h=>by simp at h⟩
theorem good_slS (hR:Rel K m base H w) (hρ:Ops K m H.length ρ ρc) {T e:TypeId} (hu:K.P.underlying T=some (.slice e)) {n:Nat} (hn:szOf K.P e=some n)
  {x:Operand} {x':X} (hx:cX K.G x=some x') {lo hi mx:Option Operand} {lo' hi' mx':Option X} (hlo:cXo K.G lo=some lo') (hhi:cXo K.G hi=some hi') (hmx:cXo K.G mx=some mx')
  (h:aop ρ (.slS n x' lo' hi' mx') H=some r):
  Good K base m H w ((do pure (Next.value (←Instr.sliceAt T (ρc x) (lo.map ρc) (hi.map ρc) (mx.map ρc))):Sem Next).run K.P w) r:=by
 simp only[aop] at h
 have hxR:=hρ x x' hx
 split at h
 ·rename_i a k c o ha
  rw[ha] at hxR
  cases hb:bnds k c (lo'.map ρ) (hi'.map ρ) (mx'.map ρ) with
  |none=>simp[hb] at h
  |some q=>
   obtain⟨l,hh,q⟩:=q
   simp only[hb,Option.bind_some,Option.some.injEq] at h
   subst h
   rw[run_v]
   cases a with
   |none=>
    obtain⟨rfl,rfl,rfl,hv⟩:=hxR
    obtain⟨h1,h2,h3,h4,h5⟩:=bnds_R (isSlice:=true) hρ (Nat.le_refl 0) hlo hhi hmx hb (Nat.le_refl 0) K.P w
    have hq0:q=0:=by omega
    have hh0:hh=0:=by omega
    have hl0:l=0:=by omega
    subst hq0 hh0 hl0
    have:(Instr.sliceAt T (ρc x) (lo.map ρc) (hi.map ρc) (mx.map ρc)).run K.P w=.ok (.slice none 0 0) w:=by
     rw[hv]
     unfold Instr.sliceAt
     simp only[Sem.run_bind,run_underlying hu,Result.andThen_ok]
     unfold Instr.slice
     simp only[Sem.run_bind,run_underlying hu,Result.andThen_ok,h1,run_szOf hn,Sem.run_pure]
     cases mx'.isNone<;>rfl
    rw[this]
    simp only[Bool.false_and,and_self,if_true]
    exact Good.val hR (show (V.c (.sl none _ _ _)).R m H.length _ from ⟨rfl,rfl,rfl,rfl⟩)
   |some a=>
    obtain⟨hl,hkc,A,c',hv,hc',hA⟩:=hxR
    have hcc:c≤c':=by split at hc'<;>omega
    obtain⟨h1,h2,h3,h4,h5⟩:=bnds_R (isSlice:=true) hρ hcc hlo hhi hmx hb hkc K.P w
    obtain⟨M,hM⟩:∃M,(if mx'.isNone=true then c' else q)=M:=⟨_,rfl⟩
    rw[hM] at h1
    have:(Instr.sliceAt T (ρc x) (lo.map ρc) (hi.map ρc) (mx.map ρc)).run K.P w=.ok (.slice (some (if M=l then A else A.add (l * n))) (hh-l) (M-l)) w:=by
     rw[hv]
     unfold Instr.sliceAt
     simp only[Sem.run_bind,run_underlying hu,Result.andThen_ok]
     unfold Instr.slice
     simp only[Sem.run_bind,run_underlying hu,Result.andThen_ok,h1,run_szOf hn,Sem.run_pure]
     split<;>rfl
    rw[this]
    refine Good.val hR ?_
    cases hmn:mx'.isNone with
    |false=>
     rw[hmn] at hM
     simp only[Bool.false_eq_true,if_false] at hM
     subst hM
     simp only[Bool.and_false,and_true]
     by_cases hql:q=l
     ·rw[if_pos hql,if_pos hql]
      refine⟨hl,by omega,A,q-l,rfl,rfl,.inr (by omega)⟩
     ·rw[if_neg hql,if_neg hql]
      refine⟨hl,by omega,_,_,rfl,rfl,.inl ?_⟩
      rcases hA with hA|hA
      ·rw[hA,adr_add]
      ·exact absurd (show q=l by omega) hql
    |true=>
     rw[hmn] at hM
     simp only[if_true] at hM
     subst hM
     have hq:=h5 hmn
     subst hq
     simp only[Bool.and_true]
     cases o with
     |false=>
      simp only[Bool.false_eq_true,if_false] at hc'
      subst hc'
      simp only[and_true]
      by_cases hql:c'=l
      ·rw[if_pos hql,if_pos hql]
       exact⟨hl,by omega,A,_,rfl,rfl,.inr (by omega)⟩
      ·rw[if_neg hql,if_neg hql]
       refine⟨hl,by omega,_,_,rfl,rfl,.inl ?_⟩
       rcases hA with hA|hA
       ·rw[hA,adr_add]
       ·exact absurd (show c'=l by omega) hql
     |true=>
      simp only[if_true] at hc'
      subst hc'
      simp only[Bool.true_eq_false,and_false,if_false]
      refine⟨hl,by omega,_,_,rfl,by simp[addA];omega,?_⟩
      by_cases hql:q+(m a.1).extra=l
      ·exact .inr (by omega)
      ·rw[if_neg hql]
       refine .inl ?_
       rcases hA with hA|hA
       ·rw[hA,adr_add]
       ·exact absurd (show q+(m a.1).extra=l by omega) hql
 ·cases h
theorem good_slA (hR:Rel K m base H w) (hρ:Ops K m H.length ρ ρc) {T e:TypeId} {k:Nat} (hu:K.P.underlying T=some (.array k e)) {n:Nat} (hn:szOf K.P e=some n)
  {x:Operand} {x':X} (hx:cX K.G x=some x') {lo hi mx:Option Operand} {lo' hi' mx':Option X} (hlo:cXo K.G lo=some lo') (hhi:cXo K.G hi=some hi') (hmx:cXo K.G mx=some mx')
  (h:aop ρ (.slA k n x' lo' hi' mx') H=some r):
  Good K base m H w ((do pure (Next.value (←Instr.sliceAt T (ρc x) (lo.map ρc) (hi.map ρc) (mx.map ρc))):Sem Next).run K.P w) r:=by
 simp only[aop] at h
 have hxR:=hρ x x' hx
 split at h
 ·rename_i a ha
  rw[ha] at hxR
  cases hb:bnds k k (lo'.map ρ) (hi'.map ρ) (mx'.map ρ) with
  |none=>simp[hb] at h
  |some q=>
   obtain⟨l,hh,q⟩:=q
   simp only[hb,Option.map_some,Option.some.injEq] at h
   subst h
   rw[run_v]
   obtain⟨h1,h2,h3,h4,h5⟩:=bnds_R (isSlice:=false) hρ (Nat.le_refl k) hlo hhi hmx hb (Nat.le_refl k) K.P w
   have hM:(if mx'.isNone=true then k else q)=q:=by
    split
    ·rename_i h0;exact(h5 h0).symm
    ·rfl
   rw[hM] at h1
   obtain⟨hl,hv⟩:=hxR
   have:(Instr.sliceAt T (ρc x) (lo.map ρc) (hi.map ρc) (mx.map ρc)).run K.P w=.ok (.slice (some (if q=l then adr m a else (adr m a).add (l * n))) (hh-l) (q-l)) w:=by
    rw[hv]
    unfold Instr.sliceAt
    simp only[Sem.run_bind,run_underlying hu,Result.andThen_ok,ptrV,Instr.sureAddr,Sem.run_pure,h1,run_szOf hn]
   rw[this]
   refine Good.val hR ?_
   by_cases hql:q=l
   ·rw[if_pos hql,if_pos hql]
    exact⟨hl,by omega,_,_,rfl,rfl,.inl rfl⟩
   ·rw[if_neg hql,if_neg hql]
    exact⟨hl,by omega,_,_,rfl,rfl,.inl (by rw[adr_add])⟩
 ·cases h
theorem good_slT (hR:Rel K m base H w) (hρ:Ops K m H.length ρ ρc) {T:TypeId} (hu:K.P.underlying T=some .string)
  {x:Operand} {x':X} (hx:cX K.G x=some x') {lo hi:Option Operand} {lo' hi':Option X} (hlo:cXo K.G lo=some lo') (hhi:cXo K.G hi=some hi')
  (h:aop ρ (.slT x' lo' hi') H=some r):
  Good K base m H w ((do pure (Next.value (←Instr.sliceAt T (ρc x) (lo.map ρc) (hi.map ρc) none)):Sem Next).run K.P w) r:=by
 simp only[aop] at h
 have hxR:=hρ x x' hx
 split at h
 ·rename_i s ha
  rw[ha] at hxR
  have hv:ρc x=.string s:=hxR
  cases hb:bnds s.size s.size (lo'.map ρ) (hi'.map ρ) none with
  |none=>simp[hb] at h
  |some q=>
   obtain⟨l,hh,q⟩:=q
   simp only[hb,Option.map_some,Option.some.injEq] at h
   subst h
   rw[run_v]
   obtain⟨h1,h2,h3,h4,h5⟩:=bnds_R (isSlice:=false) (mx:=none) (mx':=none) hρ (Nat.le_refl s.size) hlo hhi rfl hb (Nat.le_refl _) K.P w
   have:(Instr.sliceAt T (ρc x) (lo.map ρc) (hi.map ρc) none).run K.P w=.ok (.string (s.extract l hh)) w:=by
    rw[hv]
    unfold Instr.sliceAt
    simp only[Sem.run_bind,run_underlying hu,Result.andThen_ok]
    unfold Instr.slice
    simp only[Sem.run_bind,run_underlying hu,Result.andThen_ok]
    rw[if_neg (by simp)]
    have h1':=h1
    simp only[Option.map_none] at h1'
    simp only[Sem.run_bind,h1',Result.andThen_ok,Sem.run_pure]
   rw[this]
   exact Good.val hR (show (V.c (.str _)).R m H.length _ from rfl)
 ·cases h
end
end Go.Proofs.YtjcgdcadflplcaaDoor.AM
/- AM, ninth text: append. -/
namespace Go.Proofs.YtjcgdcadflplcaaDoor.AM
open Go Go.RowKit
section
variable {K:Ctx} {m:Inj} {base:Nat} {H:Heap} {w:World} {ρ:X→V} {ρc:Operand→Value} {r:AN × Heap}
theorem Rel.world (hR:Rel K m base H w) {w':World} (h:w'.heap=w.heap):Rel K m base H w':=
 ⟨fun b x hb=>(hR.blk b x hb).world (by rw[h]),hR.inj,hR.ro,by rw[h];exact hR.size,hR.glob⟩
theorem Rel.drew (hR:Rel K m base H w):Rel K m base H w.drew:=hR.world rfl
theorem growBy_le {L:Nat} (hL:256<L):∀(k c:Nat),c<2 * L→Builtin.growBy L k c≤2 * L
 |0,c,h=>by simp[Builtin.growBy];omega
 |k+1,c,h=>by
  simp only[Builtin.growBy]
  split
  ·omega
  ·rename_i hc
   by_cases h2:c+(c+768) / 4<2 * L
   ·exact growBy_le hL k _ h2
   ·cases k with
    |zero=>simp[Builtin.growBy];omega
    |succ k=>simp only[Builtin.growBy];rw[if_pos (by omega)];omega
theorem nextcap_le {L c:Nat} (h:c<L):Builtin.nextslicecap L c≤2 * L:=by
 unfold Builtin.nextslicecap
 split
 ·omega
 ·split
  ·omega
  ·exact growBy_le (by omega) 4 c (by omega)
theorem run_first {sz k c:Nat} {b:Option Ad} {o:Bool} {v:Value} {j:Nat} (hR:Rel K m base H w) (hv:(Cell.sl b k c o).R m H.length v) (hj:j≤k) {new:List Cell}
  (hn:match b with|none=>new=[]|some b=>H.ldn b (j * sz)=some new):∃vs:Array Value,(∀w':World,w'.heap=w.heap→(Builtin.firstCells sz j v).run K.P w'=.ok vs w')∧RL m H.length new vs.toList∧new.length=j * sz:=by
 cases b with
 |none=>
  obtain⟨rfl,_,_,rfl⟩:=hv
  simp only[] at hn
  subst hn
  have:j=0:=by omega
  subst this
  exact⟨#[],fun _ _=>rfl,.nil,by simp⟩
 |some b=>
  obtain⟨hl,hkc,A,c',rfl,hc',hA⟩:=hv
  simp only[] at hn
  obtain⟨vs,h1,h2⟩:=hR.loads hn
  refine⟨vs,?_,h2,(hR.cells hn).1⟩
  rcases hA with rfl|h0
  ·exact h1
  ·have hj0:j=0:=by split at hc'<;>omega
   subst hj0
   intro w' hw'
   have h1':=h1 w' hw'
   simp only[Nat.zero_mul] at h1'
   simp only[Builtin.firstCells,Nat.zero_mul]
   have e1:(loadCells (adr m b) 0).run K.P w'=.ok #[] w':=rfl
   rw[e1] at h1'
   cases h1'
   rfl
theorem zeroCells_size (z:Array Value) (n:Nat):(Builtin.zeroCells z n).size=n * z.size:=by simp[Builtin.zeroCells]
structure AppT (P:Program) (ts:Array TypeId) (e:TypeId) (i:TypeInfo) (z:Value):Prop where
 sl:∃T,ts[0]?=some T∧P.underlying T=some (.slice e)
 info:P.info? e=some i
 zero:i.zero=some z
 zsize:z.cells.size=i.size
 pos:0<i.size
 more:∃T d,ts[1]?=some T∧P.underlying T=some d∧∀k,d≠.int k
theorem run_append_room {P:Program} {w w':World} {ts:Array TypeId} {ty e:TypeId} {i:TypeInfo} {z:Value} (hT:AppT P ts e i z) {A:Option Addr} {n c k:Nat} {x:Value} (hk:Builtin.lenOf x=pure k) (hle:n+k≤c) {new:Array Value}
  (hn:(Builtin.firstCells i.size k x).run P w=.ok new w) (hs:(match A with|some a=>storeCells (a.add (n * i.size)) new.toList|none=>pure ():Sem Unit).run P w=.ok () w'):
  (Builtin.append_ ts ty #[.slice A n c,x]).run P w=.ok (.slice A (n+k) c) w':=by
 obtain⟨T,hT1,hT2⟩:=hT.sl
 obtain⟨T2,d2,hT3,hT4,hT5⟩:=hT.more
 have e0:(#[.slice A n c,x]:Array Value)[0]?=some (.slice A n c):=rfl
 have e1:(#[.slice A n c,x]:Array Value)[1]?=some x:=rfl
 have hm:(match d2 with|.int _=>true|_=>false)=false:=by
  cases d2<;>first|rfl|exact absurd rfl (hT5 _)
 unfold Builtin.append_
 simp only[hT1,e0,e1,hT3,Sem.run_bind,run_underlying hT2,Result.andThen_ok,run_size hT.info,run_underlying hT4,hm,Sem.run_pure,Bool.false_eq_true,if_false,hk]
 rw[if_pos hle]
 simp only[Bool.not_false,if_true,Sem.run_bind,hn,Result.andThen_ok]
 cases A with
 |none=>
  simp only[Sem.run_pure,Result.ok.injEq,true_and] at hs
  subst hs
  simp only[Sem.run_bind,Sem.run_pure,Result.andThen_ok]
 |some a=>
  simp only[] at hs
  simp only[Sem.run_bind,hs,Result.andThen_ok,Sem.run_pure]
theorem run_append_new {P:Program} {w:World} {ts:Array TypeId} {ty e:TypeId} {i:TypeInfo} {z:Value} (hT:AppT P ts e i z) {A:Option Addr} {n c k:Nat} {x:Value} (hk:Builtin.lenOf x=pure k) (hgt:¬n+k≤c) (hmost:(n+k) * (i.bytes+1)≤most) {old new:Array Value}
  (ho:∀w':World,w'.heap=w.heap→(Builtin.firstCells i.size n (.slice A n c)).run P w'=.ok old w') (hn:∀w':World,w'.heap=w.heap→(Builtin.firstCells i.size k x).run P w'=.ok new w'):
  ∃cap rest,n+k≤cap∧rest.size=(cap-(n+k)) * i.size∧
   (Builtin.append_ ts ty #[.slice A n c,x]).run P w=.ok (.slice (some ⟨w.heap.size,0,none⟩) (n+k) cap) (w.drew.alloc (.cells (old++new++rest) e)):=by
 obtain⟨T,hT1,hT2⟩:=hT.sl
 obtain⟨T2,d2,hT3,hT4,hT5⟩:=hT.more
 have e0:(#[.slice A n c,x]:Array Value)[0]?=some (.slice A n c):=rfl
 have e1:(#[.slice A n c,x]:Array Value)[1]?=some x:=rfl
 have hm:(match d2 with|.int _=>true|_=>false)=false:=by
  cases d2<;>first|rfl|exact absurd rfl (hT5 _)
 have hz:∀w:World,(zeroValue e).run P w=.ok z w:=fun w=>by simp[zeroValue,typeInfo,hT.info,hT.zero]
 have hcap:=nextcap_le (show c<n+k by omega)
 have hb:¬Builtin.nextslicecap (n+k) c * i.bytes > 2 ^ 48:=by
  have h1:Builtin.nextslicecap (n+k) c * i.bytes≤2 * (n+k) * i.bytes:=Nat.mul_le_mul_right _ hcap
  have h2:(n+k) * i.bytes≤(n+k) * (i.bytes+1):=Nat.mul_le_mul_left _ (by omega)
  have h3:2 * (n+k) * i.bytes=2 * ((n+k) * i.bytes):=by rw[Nat.mul_assoc]
  have h4:most=2 ^ 40:=rfl
  omega
 have hmax:¬((n+k:Nat):Int) > 9223372036854775807:=by
  have h2:(n+k) * 1≤(n+k) * (i.bytes+1):=Nat.mul_le_mul_left _ (by omega)
  have h4:most=2 ^ 40:=rfl
  omega
 refine⟨n+k+w.tape w.drawn (.appendCap (n+k) c e) % (2 ^ 63-(n+k)),Builtin.zeroCells z.cells (n+k+w.tape w.drawn (.appendCap (n+k) c e) % (2 ^ 63-(n+k))-(n+k)),by omega,by rw[zeroCells_size,hT.zsize],?_⟩
 unfold Builtin.append_
 simp only[hT1,e0,e1,hT3,Sem.run_bind,run_underlying hT2,Result.andThen_ok,run_size hT.info,run_underlying hT4,hm,Sem.run_pure,Bool.false_eq_true,if_false,hk]
 rw[if_neg hgt]
 have hinfo:∀w:World,(typeInfo e).run P w=.ok i w:=fun w=>by simp[typeInfo,hT.info]
 have hch:(choose (.appendCap (n+k) c e)).run P w=.ok (n+k+w.tape w.drawn (.appendCap (n+k) c e) % (2 ^ 63-(n+k))) w.drew:=by
  rw[run_choose];rfl
 simp only[Sem.run_bind,hinfo,Result.andThen_ok,IntKind.max_i64]
 rw[if_neg (by intro h;exact hmax h.1),Sem.run_bind,hinfo,Result.andThen_ok,if_neg hb]
 simp only[Sem.run_bind,hch,Result.andThen_ok,hinfo,run_askRoom,ho w.drew rfl,Bool.not_false,if_true,hn w.drew rfl,hz,run_newRow,Sem.run_pure]
 rfl
theorem run_stores_raw {P:Program} {w:World} {g o:Nat} {C:Array Value} {T:TypeId} {vs:List Value} (hg:w.heap[g]?=some (.cells C T (0,0))) (hl:o+vs.length≤C.size) (h1:∀v∈vs,v.oneCell'=true):
  ∃C':Array Value,(storeCells ⟨g,o,none⟩ vs).run P w=.ok () (w.setRow g C')∧C'.size=C.size∧(∀j,j<o→C'[j]?=C[j]?)∧∀j,j<vs.length→C'[o+j]?=vs[j]?:=by
 refine⟨(C.toList.take (o+0)++vs++C.toList.drop (o+0+vs.length)).toArray,run_storeCells_at P g o T vs 0 C w hg (by omega) h1,?_,?_,?_⟩
 ·simp;omega
 ·intro j hj
  simp only[Nat.add_zero,List.getElem?_toArray]
  rw[List.append_assoc,List.getElem?_append_left (by simp;omega),List.getElem?_take_of_lt hj]
  simp
 ·intro j hj
  simp only[Nat.add_zero,List.getElem?_toArray]
  rw[List.append_assoc,List.getElem?_append_right (by simp;omega),List.getElem?_append_left (by simp;omega)]
  congr 1
  simp;omega
theorem Below.setRow {B:Nat} {w:World} {g:Nat} {C:Array Value} (h:B≤g):Below B w (w.setRow g C):=
 ⟨rfl,rfl,rfl,by simp,fun k hk=>setRow_other w g k C (by omega)⟩
theorem RL.oneCells {m:Inj} {n:Nat} {l:List Cell} {vs:List Value} (h:RL m n l vs):∀v∈vs,v.oneCell'=true:=by
 intro v hv
 obtain⟨c,hc⟩:=All2.mem_left h v hv
 exact hc.oneCell'
theorem good_appH (hR:Rel K m base H w) {ts:Array TypeId} {ty e:TypeId} {i:TypeInfo} {z:Value} (hT:AppT K.P ts e i z) {a:Option Ad} {n c k:Nat} {o:Bool} {s x:Value} (hs:(Cell.sl a n c o).R m H.length s)
  (hk:Builtin.lenOf x=pure k) {new:List Cell} (hlen:new.length=k * i.size) {nw:Array Value} (hnw:∀w':World,w'.heap=w.heap→(Builtin.firstCells i.size k x).run K.P w'=.ok nw w') (hnR:RL m H.length new nw.toList)
  (h:appH H i.size i.bytes a n c o k new=some r):
  Good K base m H w ((do pure (Next.value (←Builtin.append_ ts ty #[s,x])):Sem Next).run K.P w) r:=by
 rw[run_v]
 unfold appH at h
 by_cases hle:n+k≤c
 ·rw[if_pos hle] at h
  cases a with
  |none=>
   simp only[] at h
   split at h
   ·rename_i hk0
    cases h
    obtain⟨rfl,rfl,rfl,rfl⟩:=hs
    subst hk0
    rw[run_append_room hT hk (Nat.zero_le _) (hnw w rfl) (w':=w) rfl]
    exact Good.val hR (show (V.c (.sl none _ _ _)).R m H.length _ from ⟨rfl,rfl,rfl,rfl⟩)
   ·cases h
  |some a=>
   obtain⟨hl,hkc,A,c',rfl,hc',hA⟩:=hs
   have hcc:c≤c':=by split at hc'<;>omega
   simp only[] at h
   split at h
   ·rename_i hk0
    cases h
    subst hk0
    have hnil:nw.toList=[]:=by
     have:=hnR.length
     simp at hlen
     rw[hlen] at this
     exact List.length_eq_zero_iff.1 this.symm
    rw[run_append_room hT hk (by omega) (hnw w rfl) (w':=w) (by rw[hnil];rfl)]
    exact Good.val hR (show (V.c (.sl (some a) _ _ _)).R m H.length _ from ⟨hl,hkc,A,c',rfl,hc',hA⟩)
   ·rename_i hk0
    cases hst:H.st (addA a (n * i.size)) new with
    |none=>simp[hst] at h
    |some H'=>
     simp[hst] at h;subst h
     have hA':A=adr m a:=by
      rcases hA with hA|h0
      ·exact hA
      ·omega
     obtain⟨w',h1,h2,h3,h4⟩:=hR.stores hst hnR
     rw[run_append_room hT hk (by omega) (hnw w rfl) (w':=w') (by simp only[hA',adr_add];exact h1)]
     refine⟨m,w',.inl ⟨_,rfl,?_⟩,h2,by rw[h4];exact Later.refl _ _,h3⟩
     exact⟨by rw[h4];exact hl,hle,A,c',rfl,hc',hA⟩
 ·rw[if_neg hle] at h
  split at h
  ·cases h
  ·rename_i hmost
   cases a with
   |none=>
    simp only[] at h
    split at h
    ·rename_i h0
     cases h
     obtain⟨rfl,rfl,rfl,rfl⟩:=hs
     obtain⟨cap,rest,hcap,hrest,hrun⟩:=run_append_new (ty:=ty) (A:=none) hT hk hle (by omega) (old:=#[]) (new:=nw) (fun w' _=>by simp only[Builtin.firstCells];rfl) hnw
     rw[hrun]
     simp only[Nat.zero_add] at hcap hrest ⊢
     have hnl:=hnR.length
     simp at hnl
     refine⟨upd m H.length ⟨w.drew.heap.size,0,cap-k⟩,w.drew.alloc (.cells (#[]++nw++rest) e),.inl ⟨_,rfl,?_⟩,hR.drew.alloc (cap-k) ?_ rfl,by simpa using upd_later m H.length _,((Below.refl _ _).drew).alloc hR.size _⟩
     ·refine⟨by simp,Nat.le_refl _,_,_,rfl,?_,.inl ?_⟩
      ·simp[upd];omega
      ·simp[adr,upd]
     ·refine⟨_,_,_,heap_alloc_new _ _,?_,fun _=>⟨hR.size,rfl⟩,?_⟩
      ·intro j c' hj
       obtain⟨v,hv,hr⟩:=hnR.get hj
       refine⟨v,?_,hr.later (upd_later _ _ _)⟩
       have hlt:j<nw.size:=by simpa using (List.getElem?_eq_some_iff.1 hv).1
       rw[Array.getElem?_append_left (by simp;omega)]
       simpa using hv
      ·intro sz hsz
       cases hsz
       simp only[Nat.zero_add,Array.size_append,hrest,←hnl,hlen]
       simp
    ·cases h
   |some a=>
    obtain⟨hl,hkc,A,c',rfl,hc',hA⟩:=hs
    have hcc:c≤c':=by split at hc'<;>omega
    simp only[] at h
    cases hold:H.ldn a (n * i.size) with
    |none=>simp[hold] at h
    |some old=>
     simp only[hold,Option.bind_some] at h
     have hsR:(Cell.sl (some a) n c o).R m H.length (.slice (some A) n c'):=⟨hl,hkc,A,c',rfl,hc',hA⟩
     obtain⟨ow,how,howR,holen⟩:=run_first (j:=n) hR hsR (Nat.le_refl _) (new:=old) (sz:=i.size) hold
     by_cases hin:n+k≤c'
     ·-- there is room after all
      have ho:o=true:=by
       cases o with
       |true=>rfl
       |false=>simp at hc';omega
      subst ho
      simp only[if_true] at hc' h
      split at h
      ·rename_i cs sz' hb
       split at h
       ·rename_i hsz
        cases h
        obtain⟨rfl,hend⟩:=hsz
        have hA':A=adr m a:=by
         rcases hA with hA|h0
         ·exact hA
         ·omega
        subst hA'
        obtain⟨C,T,fz,hg1,hg2,hg3,hg4⟩:=hR.blk a.1 _ hb
        obtain⟨hg3',hfz⟩:=hg3 rfl
        clear hg3
        subst hfz
        have hg3:=hg3'
        have hg5:=hg4 _ rfl
        have hnl:=hnR.length
        simp at hnl
        have hroom:(m a.1).off+a.2+n * i.size+nw.size≤C.size:=by
         rw[←hnl,hlen,←hg5,←hend]
         have h1:(n+k) * i.size≤(c+(m a.1).extra) * i.size:=Nat.mul_le_mul_right _ (by omega)
         rw[Nat.add_mul,Nat.add_mul] at h1
         omega
        obtain⟨C',hrun,hC1,hC2,hC3⟩:=run_stores_raw (P:=K.P) (o:=(m a.1).off+a.2+n * i.size) (vs:=nw.toList) hg1 (by simpa using hroom) hnR.oneCells
        have happ:=run_append_room (ty:=ty) (A:=some (adr m a)) hT hk hin (hnw w rfl) (w':=w.setRow (m a.1).blk C') (by
         simp only[adr_add]
         rw[show adr m (addA a (n * i.size))=⟨(m a.1).blk,(m a.1).off+a.2+n * i.size,none⟩ from by simp[adr,addA,Nat.add_assoc]]
         exact hrun)
        rw[happ]
        have hlt:a.1<H.length:=hl
        have hR1:Rel K m base (H.set a.1 .dead) (w.setRow (m a.1).blk C'):=
         hR.turn hb rfl (by simp) (fun q _ hq=>setRow_other w _ q C' hq) trivial (.inr rfl)
        have hsz0:0<i.size:=hT.pos
        have hR2:=hR1.push (y:=.cells (old++new) false (some i.size)) (loc:=⟨(m a.1).blk,(m a.1).off+a.2,c'-(n+k)⟩) (w':=w.setRow (m a.1).blk C') (Nat.le_refl _) (fun _ _=>rfl) (by
         refine⟨C',T,(0,0),setRow_heap w _ C C' T _ hg1,?_,fun _=>⟨hg3,rfl⟩,?_⟩
         ·intro j cc hj
          rw[List.length_set] at *
          by_cases hjn:j<n * i.size
          ·rw[List.getElem?_append_left (by omega)] at hj
           obtain⟨hol,hoc⟩:=hR.cells hold
           obtain⟨v,hv,hr⟩:=hoc j cc hj
           refine⟨v,?_,hr.later (upd_later _ _ _)⟩
           show C'[(m a.1).off+a.2+j]?=_
           rw[hC2 _ (by omega)]
           simpa [World.cell?,adr,addA,hg1,Nat.add_assoc] using hv
          ·rw[List.getElem?_append_right (by omega)] at hj
           obtain⟨v,hv,hr⟩:=hnR.get hj
           refine⟨v,?_,hr.later (upd_later _ _ _)⟩
           have hlt':j-old.length<nw.toList.length:=(List.getElem?_eq_some_iff.1 hv).1
           show C'[(m a.1).off+a.2+j]?=_
           rw[←hv,←hC3 _ hlt']
           congr 1
           omega
         ·intro sz hsz
          cases hsz
          simp only[List.length_append,hlen,holen,hC1]
          rw[←hg5,←hend]
          have h1:(c+(m a.1).extra) * i.size=(n+k+(c'-(n+k))) * i.size:=by congr 1;omega
          rw[Nat.add_mul,Nat.add_mul,Nat.add_mul] at h1
          omega) rfl (by
         intro b x hbx hxo
         by_cases hba:b=a.1
         ·subst hba
          rw[List.getElem?_set_self hlt] at hbx
          cases hbx
          simp[Blk.own] at hxo
         ·rw[List.getElem?_set_ne (by omega)] at hbx
          exact hR.inj b a.1 _ _ hbx hb hba hxo rfl)
        rw[List.length_set] at hR2
        refine⟨_,_,.inl ⟨_,rfl,?_⟩,hR2,by simpa using upd_later m H.length _,Below.setRow hg3⟩
        refine⟨by simp,Nat.le_refl _,_,_,rfl,?_,.inl ?_⟩
        ·simp[upd];omega
        ·simp[adr,upd]
       ·cases h
      ·cases h
     ·-- a new block
      obtain⟨cap,rest,hcap,hrest,hrun⟩:=run_append_new (ty:=ty) hT hk hin (by omega) (old:=ow) (new:=nw) how hnw
      rw[hrun]
      have hnl:=hnR.length
      have hol:=howR.length
      simp at hnl hol
      have mk:∀(H1:Heap),H1.length=H.length→Rel K m base H1 w→Good K base m H w (.ok (.value (.slice (some ⟨w.heap.size,0,none⟩) (n+k) cap)) (w.drew.alloc (.cells (ow++nw++rest) e)))
        (.v (.c (.sl (some (H.length,0)) (n+k) (n+k) true)),H1++[.cells (old++new) false (some i.size)]):=by
       intro H1 hlen1 hR1
       have hR2:=hR1.drew.alloc (y:=.cells (old++new) false (some i.size)) (o:=.cells (ow++nw++rest) e) (cap-(n+k)) (by
        refine⟨_,_,_,heap_alloc_new _ _,?_,fun _=>⟨hR.size,rfl⟩,?_⟩
        ·intro j cc hj
         rw[hlen1]
         obtain⟨v,hv,hr⟩:=(howR.append hnR).get hj
         refine⟨v,?_,hr.later (upd_later _ _ _)⟩
         have hlt:j<ow.size+nw.size:=by simpa using (List.getElem?_eq_some_iff.1 hv).1
         rw[Array.getElem?_append_left (by simp;omega)]
         rw[←Array.toList_append,Array.getElem?_toList] at hv
         simpa using hv
        ·intro sz hsz
         cases hsz
         simp only[Nat.zero_add,Array.size_append,hrest,←hnl,←hol,List.length_append]) rfl
       rw[hlen1] at hR2
       refine⟨_,_,.inl ⟨_,rfl,?_⟩,hR2,by simpa [hlen1] using upd_later m H.length _,((Below.refl _ _).drew).alloc hR.size _⟩
       refine⟨by simp[hlen1],Nat.le_refl _,_,_,rfl,?_,.inl ?_⟩
       ·simp[upd];omega
       ·simp[adr,upd]
      cases o with
      |false=>
       simp only[Bool.false_eq_true,if_false] at h
       cases h
       exact mk H rfl hR
      |true=>
       simp only[if_true] at h
       split at h
       ·rename_i cs sz' hb
        split at h
        ·cases h
         exact mk (H.set a.1 .dead) (by simp) (hR.turn hb rfl (Nat.le_refl _) (fun _ _ _=>rfl) trivial (.inr rfl))
        ·cases h
       ·cases h
end
end Go.Proofs.YtjcgdcadflplcaaDoor.AM
/- AM, tenth text: append as an operation, copy, clear, make, bytes to a string, maps, max and min. -/
namespace Go.Proofs.YtjcgdcadflplcaaDoor.AM
open Go Go.RowKit
section
variable {K:Ctx} {m:Inj} {base:Nat} {H:Heap} {w:World} {ρ:X→V} {ρc:Operand→Value} {r:AN × Heap}
theorem good_app (hR:Rel K m base H w) (hρ:Ops K m H.length ρ ρc) {ts:Array TypeId} {ty e:TypeId} {cn:Array Bool} {i:TypeInfo} {z:Value} (hT:AppT K.P ts e i z) {s x:Operand} {s' x':X} (hs:cX K.G s=some s') (hx:cX K.G x=some x')
  (h:aop ρ (.app e i.size i.bytes s' x') H=some r):Good K base m H w ((builtin .append ts ty cn #[ρc s,ρc x]).run K.P w) r:=by
 simp only[aop] at h
 have hsR:=hρ s s' hs
 have hxR:=hρ x x' hx
 split at h
 ·rename_i a n c o b k kc ko h1 h2
  rw[h1] at hsR
  rw[h2] at hxR
  have hxR':(Cell.sl b k kc ko).R m H.length (ρc x):=hxR
  obtain⟨p,c',hxv,_,_⟩:=sl_R hxR'
  have hk:Builtin.lenOf (ρc x)=pure k:=by rw[hxv];rfl
  cases b with
  |none=>
   simp only[] at h
   split at h
   ·rename_i hk0
    subst hk0
    obtain⟨nw,hn1,hn2,hn3⟩:=run_first (sz:=i.size) (j:=0) hR hxR' (Nat.le_refl _) (new:=[]) rfl
    exact good_appH hR hT hsR hk hn3 hn1 hn2 h
   ·cases h
  |some b=>
   simp only[] at h
   cases hld:H.ldn b (k * i.size) with
   |none=>simp[hld] at h
   |some new=>
    simp only[hld,Option.bind_some] at h
    obtain⟨nw,hn1,hn2,hn3⟩:=run_first (sz:=i.size) (j:=k) hR hxR' (Nat.le_refl _) (new:=new) hld
    exact good_appH hR hT hsR hk hn3 hn1 hn2 h
 ·cases h
theorem byteCells_R (m:Inj) (n:Nat) (t:ByteArray):RL m n (byteCells t) ((t.extract 0 t.size).data.map fun b=>Value.int .u8 b.toNat).toList:=by
 rw[ByteArray.extract_zero_size,Array.toList_map]
 unfold byteCells
 generalize t.data.toList=l
 induction l with
 |nil=>exact .nil
 |cons b l ih=>exact .cons rfl ih
theorem good_appT (hR:Rel K m base H w) (hρ:Ops K m H.length ρ ρc) {ts:Array TypeId} {ty e:TypeId} {cn:Array Bool} {i:TypeInfo} {z:Value} (hT:AppT K.P ts e i z) (hi1:i.size=1) (hi2:i.bytes=1) {s x:Operand} {s' x':X} (hs:cX K.G s=some s') (hx:cX K.G x=some x')
  (h:aop ρ (.appT e s' x') H=some r):Good K base m H w ((builtin .append ts ty cn #[ρc s,ρc x]).run K.P w) r:=by
 simp only[aop] at h
 have hsR:=hρ s s' hs
 have hxR:=hρ x x' hx
 split at h
 ·rename_i a n c o t h1 h2
  rw[h1] at hsR
  rw[h2] at hxR
  have hxv:ρc x=.string t:=hxR
  have hk:Builtin.lenOf (ρc x)=pure t.size:=by rw[hxv];rfl
  have h':appH H i.size i.bytes a n c o t.size (byteCells t)=some r:=by rw[hi1,hi2];exact h
  refine good_appH hR hT hsR hk (by rw[hi1];simp[byteCells]) (nw:=(t.extract 0 t.size).data.map fun b=>Value.int .u8 b.toNat) (fun w' _=>by rw[hxv];rfl) (byteCells_R m H.length t) h'
 ·cases h
theorem good_cpy (hR:Rel K m base H w) (hρ:Ops K m H.length ρ ρc) {ts:Array TypeId} {T ty e:TypeId} {cn:Array Bool} {n:Nat} (hT:ts[0]?=some T) (hu:K.P.underlying T=some (.slice e)) (hn:szOf K.P e=some n) {s x:Operand} {s' x':X} (hs:cX K.G s=some s') (hx:cX K.G x=some x')
  (h:aop ρ (.cpy n s' x') H=some r):Good K base m H w ((builtin .copy ts ty cn #[ρc s,ρc x]).run K.P w) r:=by
 simp only[aop] at h
 have hsR:=hρ s s' hs
 have hxR:=hρ x x' hx
 have e0:(#[ρc s,ρc x]:Array Value)[0]?=some (ρc s):=rfl
 have e1:(#[ρc s,ρc x]:Array Value)[1]?=some (ρc x):=rfl
 split at h
 ·rename_i a k c o b q qc qo h1 h2
  rw[h1] at hsR
  rw[h2] at hxR
  have hsR':(Cell.sl a k c o).R m H.length (ρc s):=hsR
  have hxR':(Cell.sl b q qc qo).R m H.length (ρc x):=hxR
  obtain⟨p,c',hsv,hp,_⟩:=sl_R hsR'
  obtain⟨p2,c2',hxv,hp2,_⟩:=sl_R hxR'
  have hlen:Builtin.lenOf (ρc x)=pure q:=by rw[hxv];rfl
  have run:∀{vs:Array Value} {w':World},(Builtin.firstCells n (min q k) (ρc x)).run K.P w=.ok vs w→(p.elim (pure ()) fun a=>storeCells a vs.toList:Sem Unit).run K.P w=.ok () w'→
    (builtin .copy ts ty cn #[ρc s,ρc x]).run K.P w=.ok (.value (.int .i64 (min q k:Nat))) w':=by
   intro vs w' hv hw'
   unfold builtin
   simp only[]
   rw[run_v]
   simp only[Builtin.copy_,hT,e0,e1]
   simp only[Sem.run_bind,run_underlying hu,Result.andThen_ok,hlen,Sem.run_pure,run_szOf hn]
   rw[hsv]
   simp only[Sem.run_bind,hlen,Result.andThen_ok,Sem.run_pure,run_szOf hn]
   rw[show Nat.min q k=min q k from rfl,hv]
   simp only[Result.andThen_ok]
   cases p with
   |none=>
    simp only[Option.elim_none,Sem.run_pure,Result.ok.injEq,true_and] at hw'
    subst hw'
    simp[goInt]
   |some A=>
    simp only[Option.elim_some] at hw'
    simp[hw',goInt]
  by_cases hj:min q k=0
  ·rw[if_pos hj] at h
   cases h
   have hv:(Builtin.firstCells n (min q k) (ρc x)).run K.P w=.ok #[] w:=by
    rw[hj,hxv]
    cases p2<;>simp[Builtin.firstCells,loadCells,loadCellsFrom]
   have:=run hv (w':=w) (by cases p<;>rfl)
   rw[this,hj]
   exact Good.val hR (show (V.c (.int _ _)).R m H.length _ from rfl)
  ·rw[if_neg hj] at h
   cases a with
   |none=>simp at h
   |some a=>
   cases b with
   |none=>simp at h
   |some b=>
   simp only[] at h
   cases hld:H.ldn b (min q k * n) with
   |none=>simp[hld] at h
   |some new=>
   simp only[hld,Option.bind_some] at h
   cases hst:H.st a new with
   |none=>simp[hst] at h
   |some H'=>
   simp[hst] at h;subst h
   obtain⟨nw,hn1,hn2,hn3⟩:=run_first (sz:=n) (j:=min q k) hR hxR' (Nat.min_le_left _ _) (new:=new) hld
   obtain⟨w',hs1,hs2,hs3,hs4⟩:=hR.stores hst hn2
   obtain⟨hl,hkc,A,c'',hsv',hc',hA⟩:=hsR'
   have hA':A=adr m a:=by
    rcases hA with hA|h0
    ·exact hA
    ·split at hc'<;>omega
   have hp':p=some (adr m a):=by
    rw[hsv] at hsv'
    cases hsv'
    rw[hA']
   have:=run (hn1 w rfl) (w':=w') (by rw[hp'];exact hs1)
   rw[this]
   exact⟨m,w',.inl ⟨_,rfl,by simp[V.R,Cell.R]⟩,hs2,by rw[hs4];exact Later.refl _ _,hs3⟩
 ·cases h
theorem good_clr (hR:Rel K m base H w) (hρ:Ops K m H.length ρ ρc) {ts:Array TypeId} {T ty e:TypeId} {cn:Array Bool} {n:Nat} (hT:ts[0]?=some T) (hu:K.P.underlying T=some (.slice e)) (hn:szOf K.P e=some n) {z:V} (hz:zOf K.P e=some z) {zc:List Cell} (hzc:z.cells=some zc)
  {x:Operand} {x':X} (hx:cX K.G x=some x') (h:aop ρ (.clr n zc x') H=some r):Good K base m H w ((builtin .clear ts ty cn #[ρc x]).run K.P w) r:=by
 simp only[aop] at h
 have hxR:=hρ x x' hx
 have e0:(#[ρc x]:Array Value)[0]?=some (ρc x):=rfl
 unfold builtin
 simp only[]
 rw[run_v]
 split at h
 ·rename_i a k c o h1
  rw[h1] at hxR
  have hxR':(Cell.sl a k c o).R m H.length (ρc x):=hxR
  split at h
  ·rename_i hk
   cases h
   subst hk
   obtain⟨p,c',hxv,hp,_⟩:=sl_R hxR'
   have:(Builtin.clear_ ts ty #[ρc x]).run K.P w=.ok undef w:=by
    unfold Builtin.clear_
    simp only[hT,e0]
    rw[hxv]
    cases p<;>simp[undef,run_underlying hu]
   rw[this]
   exact Good.val hR (V.R_undef _ _)
  ·rename_i hk
   cases a with
   |none=>simp at h
   |some a=>
    simp only[] at h
    split at h
    ·rename_i hzl
     cases hst:H.st a (grows zc k) with
     |none=>simp[hst] at h
     |some H'=>
      simp[hst] at h;subst h
      obtain⟨v,hz1,hz2⟩:=run_zOf hz w
      have hzR:=(vOf_R hz2 m H.length).cells hzc
      obtain⟨hl,hkc,A,c',hxv,hc',hA⟩:=hxR'
      have hA':A=adr m a:=by
       rcases hA with hA|h0
       ·exact hA
       ·split at hc'<;>omega
      have hzl2:=hzR.length
      simp at hzl2
      have hg:=RL_grows hzR k
      obtain⟨w',hs1,hs2,hs3,hs4⟩:=hR.stores hst hg
      have:(Builtin.clear_ ts ty #[ρc x]).run K.P w=.ok undef w':=by
       unfold Builtin.clear_
       simp only[hT,e0]
       rw[hxv]
       simp only[Sem.run_bind,run_underlying hu,Result.andThen_ok]
       have hz3:Builtin.zeroCells v.cells k=(Array.range (k * zc.length)).map (fun i=>v.cells[i % v.cells.size]!):=by
        unfold Builtin.zeroCells
        rw[hzl2]
       obtain⟨k,rfl⟩:∃q,k=q+1:=⟨k-1,by omega⟩
       simp only[Sem.run_bind,hz1,Result.andThen_ok]
       rw[hz3,hA',hs1]
       rfl
      rw[this]
      exact⟨m,w',.inl ⟨_,rfl,V.R_undef _ _⟩,hs2,by rw[hs4];exact Later.refl _ _,hs3⟩
    ·cases h
 ·cases h
theorem wrap_small {i:Int} (h0:0≤i) (h:i≤2 ^ 40):IntKind.i64.wrap i=i:=by
 rw[IntKind.wrap_i64]
 omega
theorem good_mksl (hR:Rel K m base H w) (hρ:Ops K m H.length ρ ρc) {T e:TypeId} (hu:K.P.underlying T=some (.slice e)) {i:TypeInfo} (hi:K.P.info? e=some i) {z:V} (hz:zOf K.P e=some z) {zc:List Cell} (hzc:z.cells=some zc)
  {l c:Operand} {l' c':X} (hl:cX K.G l=some l') (hc:cX K.G c=some c') (h:aop ρ (.mksl e i.size i.bytes zc l' c') H=some r):
  Good K base m H w ((do pure (Next.value (←Instr.makeSlice T (ρc l) (ρc c))):Sem Next).run K.P w) r:=by
 simp only[aop] at h
 cases h1:asI (ρ l') with
 |none=>simp[h1] at h
 |some L=>
  cases h2:asI (ρ c') with
  |none=>simp[h1,h2] at h
  |some C=>
   simp only[h1,h2,Option.bind_some] at h
   split at h
   ·rename_i hh
    cases h
    obtain⟨hL0,hLC,hCm,hzs⟩:=hh
    obtain⟨kl,hlv⟩:=asI_R h1 (hρ l l' hl)
    obtain⟨kc,hcv⟩:=asI_R h2 (hρ c c' hc)
    have hm:most=2 ^ 40:=rfl
    have hC40:C≤2 ^ 40:=by
     have:C * 1≤C * (i.bytes+1):=Int.mul_le_mul_of_nonneg_left (by omega) (by omega)
     omega
    have hCb:(i.bytes:Int) * C≤2 ^ 40:=by
     have:C * (i.bytes:Int)≤C * (i.bytes+1):=Int.mul_le_mul_of_nonneg_left (by omega) (by omega)
     rw[Int.mul_comm]
     omega
    obtain⟨v,hz1,hz2⟩:=run_zOf hz w
    have hzR:=(vOf_R hz2 m H.length).cells hzc
    have hwL:IntKind.i64.wrap L=L:=wrap_small hL0 (by omega)
    have hwC:IntKind.i64.wrap C=C:=wrap_small (by omega) hC40
    have hinfo:(typeInfo e).run K.P w=.ok i w:=by simp[typeInfo,hi]
    have key:∃cs:Array Value,RL m H.length (grows zc C.toNat) cs.toList∧(Instr.makeSlice T (ρc l) (ρc c)).run K.P w=.ok (.slice (some ⟨w.heap.size,0,none⟩) L.toNat C.toNat) (w.alloc (.cells cs e)):=by
     by_cases h0:C.toNat * i.size=0
     ·refine⟨#[],?_,?_⟩
      ·have:(grows zc C.toNat).length=0:=by
        rw[grows_length]
        rcases hzs with hzs|hc0
        ·rw[hzs];exact h0
        ·have:C.toNat=0:=by omega
         rw[this,Nat.zero_mul]
       rw[List.length_eq_zero_iff.1 this]
       exact .nil
      ·unfold Instr.makeSlice
       simp only[Sem.run_bind,run_underlying hu,Result.andThen_ok,hlv,hcv,asInt,asIntOf,Sem.run_pure,hinfo,hwL,hwC]
       rw[if_neg (by simp;omega)]
       simp only[Sem.run_bind,run_askRoom,Result.andThen_ok,run_size hi,h0,if_true,Sem.run_pure,run_newRow]
       rw[show (Array.range 0).map (fun x=>(#[]:Array Value)[x % (#[]:Array Value).size]!)=#[] from by simp]
     ·refine⟨(Array.range (C.toNat * zc.length)).map (fun j=>v.cells[j % v.cells.size]!),RL_grows hzR _,?_⟩
      have hzs':zc.length=i.size:=by
       rcases hzs with h|h
       ·exact h
       ·exfalso;apply h0;have:C.toNat=0:=by omega
        rw[this,Nat.zero_mul]
      unfold Instr.makeSlice
      simp only[Sem.run_bind,run_underlying hu,Result.andThen_ok,hlv,hcv,asInt,asIntOf,Sem.run_pure,hinfo,hwL,hwC]
      rw[if_neg (by simp;omega)]
      simp only[Sem.run_bind,run_askRoom,Result.andThen_ok,run_size hi,h0,if_false,Sem.run_pure,hz1,run_newRow,hzs']
    obtain⟨cs,hcs,hrun⟩:=key
    rw[run_v,hrun]
    exact Good.fresh_sl hR e hcs _ _ (by omega)
   ·cases h
def bytesV (vs:List Value):Option (List UInt8):=vs.mapM fun|.int .u8 n=>some (UInt8.ofNat n.toNat)|_=>none
theorem bytesOf_R {m:Inj} {n:Nat}:∀{cs:List Cell} {vs:List Value} {l:List UInt8},RL m n cs vs→bytesOf cs=some l→bytesV vs=some l:=by
 intro cs
 induction cs with
 |nil=>intro vs l h hb;cases h;simp[bytesOf] at hb;subst hb;rfl
 |cons c cs ih=>
  intro vs l h hb
  cases h with
  |@cons _ v _ vs hx hv=>
   unfold bytesOf at hb
   split at hb
   ·rename_i heq;cases heq
   ·rename_i i r heq
    cases heq
    cases hr:bytesOf cs with
    |none=>simp[hr] at hb
    |some l'=>
     simp[hr] at hb;subst hb
     have:=ih hv hr
     cases hx
     unfold bytesV at this ⊢
     simp[this]
   ·cases hb
theorem push_append (a:ByteArray) (b:UInt8) (l:List UInt8):(a.push b)++(⟨l.toArray⟩:ByteArray)=a++(⟨(b :: l).toArray⟩:ByteArray):=by
 apply ByteArray.ext
 simp[ByteArray.data_append,ByteArray.data_push]
theorem forIn_bytes {P:Program} {w:World}:∀(vs:List Value) (l:List UInt8) (acc:ByteArray),bytesV vs=some l→
  (forIn vs acc (fun c s=>match c with
   |.int .u8 n=>do pure (ForInStep.yield (s.push (UInt8.ofNat n.toNat)))
   |_=>do stuck "bytesToString: byte expected";pure (ForInStep.yield s)):Sem ByteArray).run P w=.ok (acc++⟨l.toArray⟩) w:=by
 intro vs
 induction vs with
 |nil=>intro l acc h;simp[bytesV] at h;subst h;simp[ByteArray.ext_iff]
 |cons v vs ih=>
  intro l acc h
  unfold bytesV at h
  rw[List.mapM_cons] at h
  rw[List.forIn_cons]
  cases v with
  |int k n=>
   cases k with
   |u8=>
    simp only[Option.pure_def,Option.bind_eq_bind,Option.bind_some] at h
    cases hr:bytesV vs with
    |none=>unfold bytesV at hr;rw[hr] at h;simp at h
    |some l'=>
     have hr':=hr
     unfold bytesV at hr'
     rw[hr'] at h
     simp at h;subst h
     simp only[Sem.run_bind,Sem.run_pure,Result.andThen_ok,ih l' _ hr,push_append]
   |_=>simp at h
  |_=>simp at h
end
end Go.Proofs.YtjcgdcadflplcaaDoor.AM
/- AM, eleventh text: bytes to a string, maps, max and min. -/
namespace Go.Proofs.YtjcgdcadflplcaaDoor.AM
open Go Go.RowKit
section
variable {K:Ctx} {m:Inj} {base:Nat} {H:Heap} {w:World} {ρ:X→V} {ρc:Operand→Value} {r:AN × Heap}
theorem aop_b2s_eq (x:X):aop ρ (.b2s x) H=match ρ x with
  |.c (.sl none 0 _ _)=>some (.v (.c (.str ⟨#[]⟩)),H)
  |.c (.sl (some a) n _ _)=>((H.ldn a n).bind bytesOf).map fun l=>(.v (.c (.str ⟨l.toArray⟩)),H)
  |_=>none:=by
 simp only[aop]
 cases ρ x with
 |c y=>cases y with
  |sl a n c o=>cases a with
   |none=>cases n<;>rfl
   |some a=>
    simp only[b2sO]
    cases (H.ldn a n).bind bytesOf<;>rfl
  |_=>rfl
 |_=>rfl
theorem good_b2s (hR:Rel K m base H w) (hρ:Ops K m H.length ρ ρc) {s d e:TypeId} (hs:K.P.underlying s=some (.slice e)) (hd:K.P.underlying d=some .string) (he:K.P.underlying e=some (.int .u8)) {x:Operand} {x':X} (hx:cX K.G x=some x')
  (h:aop ρ (.b2s x') H=some r):Good K base m H w ((do pure (Next.value (←convert s d (ρc x))):Sem Next).run K.P w) r:=by
 rw[aop_b2s_eq] at h
 have hxR:=hρ x x' hx
 rw[run_v]
 have conv:∀p k c',ρc x=.slice p k c'→(convert s d (ρc x)).run K.P w=(Conv.bytesToString (.slice p k c')).run K.P w:=by
  intro p k c' hv
  rw[hv]
  simp only[convert,Sem.run_bind,run_underlying hs,run_underlying hd,Result.andThen_ok]
  cases p<;>simp only[Sem.run_bind,run_underlying he,Result.andThen_ok]
 split at h
 ·rename_i c o h1
  cases h
  rw[h1] at hxR
  obtain⟨_,_,_,hv⟩:=hxR
  rw[conv _ _ _ hv]
  exact Good.val hR (show (V.c (.str _)).R m H.length _ from rfl)
 ·rename_i a k c o h1
  rw[h1] at hxR
  cases hl:H.ldn a k with
  |none=>simp[hl] at h
  |some cs=>
   cases hb:bytesOf cs with
   |none=>simp[hl,hb] at h
   |some l=>
    simp[hl,hb] at h;subst h
    have hxR':(Cell.sl (some a) k c o).R m H.length (ρc x):=hxR
    obtain⟨vs,hn1,hn2,hn3⟩:=run_first (sz:=1) (j:=k) hR hxR' (Nat.le_refl _) (new:=cs) (by rw[Nat.mul_one];exact hl)
    obtain⟨_,_,A,c',hv,_,_⟩:=hxR'
    rw[conv _ _ _ hv]
    have hload:(loadCells A k).run K.P w=.ok vs w:=by
     have:=hn1 w rfl
     rw[hv] at this
     simpa [Builtin.firstCells] using this
    have:(Conv.bytesToString (.slice (some A) k c')).run K.P w=.ok (.string (ByteArray.empty++⟨l.toArray⟩)) w:=by
     unfold Conv.bytesToString
     simp only[Sem.run_bind,hload,Result.andThen_ok]
     have:=forIn_bytes (P:=K.P) (w:=w) vs.toList l ByteArray.empty (bytesOf_R hn2 hb)
     rw[←Array.forIn_toList]
     exact Eq.trans (congrArg (fun r:Result ByteArray=>r.andThen fun a w'=>Sem.run K.P (pure (Value.string a)) w') this) rfl
    rw[this]
    have e:ByteArray.empty++(⟨l.toArray⟩:ByteArray)=⟨l.toArray⟩:=by apply ByteArray.ext;simp
    rw[e]
    exact Good.val hR (show (V.c (.str _)).R m H.length _ from rfl)
 ·cases h
def KK.fits:KK→TypeDesc→Prop
 |.int,d=>∃k,d=.int k
 |.bool,d=>d=.bool
 |.str,d=>d=.string
theorem keyT_spec {P:Program} {T:TypeId} {kk:KK} (h:keyT P T=some kk):∃d,P.underlying T=some d∧kk.fits d:=by
 unfold keyT at h
 split at h<;>first|(cases h;done)|(cases h;rename_i e;exact⟨_,e,_,rfl⟩)|(cases h;rename_i e;exact⟨_,e,rfl⟩)
def FoundR (m:Inj) (n:Nat) (f:Option (Option (Nat × Value))):Option V→Prop
 |none=>f=some none
 |some v=>∃j u,f=some (some (j,u))∧v.R m n u
theorem findE_R {kk:KK} {d:TypeDesc} (hd:kk.fits d) {k:Cell} (hk:kk.ok k=true) {n:Nat} {kv:Value} (hkR:k.R m n kv):∀{es:List (Cell × V)} {E:List MapEntry} {e:Option V} (i:Nat),
  All2 (fun(x:Cell × V) (e:MapEntry)=>x.1.R m n e.key∧x.2.R m n e.val) es E→findE k es=some e→FoundR m n (Instr.findNow d kv E i) e:=by
 intro es
 induction es with
 |nil=>
  intro E e i hE h
  cases hE
  simp[findE] at h;subst h
  rfl
 |cons x es ih=>
  intro E e i hE h
  obtain⟨k',v⟩:=x
  cases hE with
  |@cons _ en _ E hx hE=>
   obtain⟨hx1,hx2⟩:=hx
   simp only[] at hx1 hx2
   have step:∀b:Bool,Instr.sameNow d kv en.key=some b→(if b=true then e=some v else findE k es=some e)→FoundR m n (Instr.findNow d kv (en :: E) i) e:=by
    intro b hb he
    cases b with
    |true=>
     simp only[if_true] at he
     subst he
     exact⟨i,en.val,by simp only[Instr.findNow,hb],hx2⟩
    |false=>
     simp only[Bool.false_eq_true,if_false] at he
     have:=ih (i+1) hE he
     simp only[Instr.findNow,hb]
     exact this
   unfold findE at h
   split at h
   ·rename_i p a q b
    have e1:kv=.int p a:=hkR
    have e2:en.key=.int q b:=hx1
    cases kk<;>simp[KK.ok] at hk
    obtain⟨kd,rfl⟩:=hd
    split at h
    ·rename_i hpq
     refine step (a == b) (by simp[Instr.sameNow,e1,e2,hpq]) ?_
     split at h<;>simp_all
    ·cases h
   ·rename_i a b
    have e1:kv=.string a:=hkR
    have e2:en.key=.string b:=hx1
    cases kk<;>simp[KK.ok] at hk
    cases hd
    refine step (a == b) (by simp[Instr.sameNow,e1,e2]) ?_
    split at h<;>simp_all
   ·rename_i a b
    have e1:kv=.bool a:=hkR
    have e2:en.key=.bool b:=hx1
    cases kk<;>simp[KK.ok] at hk
    cases hd
    refine step (a == b) (by simp[Instr.sameNow,e1,e2]) ?_
    split at h<;>simp_all
   ·cases h
theorem run_checkKey {P:Program} {w:World} {kk:KK} {d:TypeDesc} (hd:kk.fits d) {T:TypeId} (hT:P.underlying T=some d) (b:Bool) (n:Nat) (v:Value):(Instr.checkKey b (n+1) T v).run P w=.ok () w:=by
 unfold Instr.checkKey
 rw[Sem.run_bind,run_underlying hT,Result.andThen_ok]
 cases kk with
 |int=>obtain⟨k,rfl⟩:=hd;rfl
 |bool=>cases hd;rfl
 |str=>cases hd;rfl
theorem good_mkmap (hR:Rel K m base H w) (hρ:Ops K m H.length ρ ρc) {T:TypeId} {x:Option Operand} {x':Option X} (hx:(x=none∧x'=none)∨((∃a b,K.P.underlying T=some (.map a b))∧∃y y',x=some y∧x'=some y'∧cX K.G y=some y')) (h:aop ρ (.mkmap x') H=some r):
  Good K base m H w ((do pure (Next.value (←Instr.makeMap T (x.map ρc))):Sem Next).run K.P w) r:=by
 have key:r=(.v (.c (.map (some H.length))),H++[.map []])∧(Instr.makeMap T (x.map ρc)).run K.P w=.ok (.map (some w.heap.size)) (w.alloc (.map #[] 0)):=by
  rcases hx with ⟨rfl,rfl⟩|⟨⟨a,b,hu⟩,y,y',rfl,rfl,hy⟩
  ·simp only[aop,Option.some.injEq] at h
   exact⟨h.symm,by simp[Instr.makeMap]⟩
  ·simp only[aop] at h
   cases hi:asI (ρ y') with
   |none=>simp[hi] at h
   |some i=>
    simp[hi] at h
    obtain⟨k,hk⟩:=asI_R hi (hρ y y' hy)
    exact⟨h.symm,by simp[Instr.makeMap,run_underlying hu,asInt,asIntOf,hk]⟩
 obtain⟨rfl,hrun⟩:=key
 rw[run_v,hrun]
 refine⟨_,_,.inl ⟨_,rfl,?_⟩,hR.alloc (y:=.map []) 0 ⟨hR.size,#[],0,heap_alloc_new _ _,.nil⟩ rfl,by simpa using upd_later m H.length _,(Below.refl _ _).alloc hR.size _⟩
 exact⟨by simp,by simp[upd]⟩
theorem run_getObj {P:Program} {w:World} {r:Nat} {o:Obj} (h:w.heap[r]?=some o) (hc:∀C T fz,o≠.cells C T fz):(getObj r).run P w=.ok o w:=by
 simp only[getObj,Sem.run,h]
 first|done|(cases o<;>first|rfl|exact absurd rfl (hc _ _ _))
theorem run_setObj {P:Program} {w:World} {r:Nat} {o o':Obj} (h:w.heap[r]?=some o) (hc:∀C T fz,o≠.cells C T fz):(setObj r o').run P w=.ok () { w with heap:=w.heap.setIfInBounds r o' }:=by
 simp only[setObj,Sem.run,h]
 first|done|(cases o<;>first|rfl|exact absurd rfl (hc _ _ _))
theorem Rel.turnObj (hR:Rel K m base H w) {b:Nat} {x y:Blk} {o o':Obj} (hb:H[b]?=some x) (hx:x.own=true) (ho:w.heap[(m b).blk]?=some o) (hy:BlkR K m H.length base (m b) { w with heap:=w.heap.setIfInBounds (m b).blk o' } y) (hyo:y.own=true):
  Rel K m base (H.set b y) { w with heap:=w.heap.setIfInBounds (m b).blk o' }∧Below base w { w with heap:=w.heap.setIfInBounds (m b).blk o' }:=by
 have hbase:=(hR.blk b x hb).own_base hx
 refine⟨hR.turn hb hx (by simp) (fun k _ hk=>?_) hy (.inl hyo),⟨rfl,rfl,rfl,by simp,fun k hk=>?_⟩⟩
 ·simp only[Array.getElem?_setIfInBounds];rw[if_neg (by omega)]
 ·simp only[Array.getElem?_setIfInBounds];rw[if_neg (by omega)]
theorem set_self {w:World} {g:Nat} {o o':Obj} (h:w.heap[g]?=some o):(w.heap.setIfInBounds g o')[g]?=some o':=by
 have:=(Array.getElem?_eq_some_iff.1 h).1
 simp[Array.getElem?_setIfInBounds,this]
theorem good_ins (hR:Rel K m base H w) (hρ:Ops K m H.length ρ ρc) {T kt et:TypeId} (hu:K.P.underlying T=some (.map kt et)) {kk:KK} (hkt:keyT K.P kt=some kk) {a k v:Operand} {a' k' v':X} (ha:cX K.G a=some a') (hk:cX K.G k=some k') (hv:cX K.G v=some v')
  (h:aop ρ (.ins kk a' k' v') H=some r):Good K base m H w ((do Instr.mapUpdate T (ρc a) (ρc k) (ρc v);pure Next.skip:Sem Next).run K.P w) r:=by
 simp only[aop] at h
 have haR:=hρ a a' ha
 have hkR:=hρ k k' hk
 have hvR:=hρ v v' hv
 rw[run_u]
 split at h
 ·rename_i g kc h1 h2
  rw[h1] at haR
  rw[h2] at hkR
  obtain⟨hgl,hav⟩:=haR
  have hkR':kc.R m H.length (ρc k):=hkR
  split at h
  ·rename_i es hes
   split at h
   ·rename_i hok
    split at h
    ·rename_i hfe
     cases h
     obtain⟨d,hd1,hd2⟩:=keyT_spec hkt
     obtain⟨hbase,E,clk,hE1,hE2⟩:=hR.blk g _ hes
     have hfn:=findE_R hd2 hok hkR' (e:=none) 0 hE2 hfe
     have hfn:Instr.findNow d (ρc k) E.toList 0=some none:=hfn
     have hnc:∀C T fz,Obj.map E clk≠.cells C T fz:=by intros;simp
     obtain⟨hR',hB⟩:=hR.turnObj (y:=.map (es++[(kc,ρ v')])) (o':=.map (E.push { key:=ρc k,val:=ρc v,born:=clk }) (clk+1)) hes rfl hE1 ⟨hbase,_,_,set_self hE1,by
      rw[Array.toList_push]
      exact hE2.append (.cons ⟨hkR',hvR⟩ .nil)⟩ rfl
     have:(Instr.mapUpdate T (ρc a) (ρc k) (ρc v)).run K.P w=.ok () { w with heap:=w.heap.setIfInBounds (m g).blk (.map (E.push { key:=ρc k,val:=ρc v,born:=clk }) (clk+1)) }:=by
      unfold Instr.mapUpdate
      rw[hav]
      simp only[Sem.run_bind,run_underlying hu,Result.andThen_ok,run_getObj hE1 hnc]
      rw[show (10000:Nat)=9999+1 from rfl,run_checkKey hd2 hd1]
      simp only[Result.andThen_ok,Instr.findKey,Sem.run_bind,run_underlying hd1,hfn,Sem.run_pure]
      exact run_setObj hE1 hnc
     rw[this]
     exact⟨m,_,.inr ⟨rfl,rfl⟩,hR',by simpa using Later.refl _ _,hB⟩
    ·cases h
   ·cases h
  ·cases h
 ·cases h
theorem good_look (hR:Rel K m base H w) (hρ:Ops K m H.length ρ ρc) {T kt et:TypeId} (hu:K.P.underlying T=some (.map kt et)) {kk:KK} (hkt:keyT K.P kt=some kk) {z:V} (hz:zOf K.P et=some z) {ok:Bool} {a k:Operand} {a' k':X} (ha:cX K.G a=some a') (hk:cX K.G k=some k')
  (h:aop ρ (.look kk z ok a' k') H=some r):Good K base m H w ((do pure (Next.value (←Instr.lookup T (ρc a) (ρc k) ok)):Sem Next).run K.P w) r:=by
 simp only[aop] at h
 have haR:=hρ a a' ha
 have hkR:=hρ k k' hk
 rw[run_v]
 split at h
 ·rename_i g kc h1 h2
  rw[h1] at haR
  rw[h2] at hkR
  obtain⟨hgl,hav⟩:=haR
  have hkR':kc.R m H.length (ρc k):=hkR
  split at h
  ·rename_i es hes
   split at h
   ·rename_i hok
    cases hfe:findE kc es with
    |none=>simp[hfe] at h
    |some e=>
     simp only[hfe,Option.bind_some] at h
     obtain⟨d,hd1,hd2⟩:=keyT_spec hkt
     obtain⟨hbase,E,clk,hE1,hE2⟩:=hR.blk g _ hes
     have hfn:=findE_R hd2 hok hkR' (e:=e) 0 hE2 hfe
     have hnc:∀C T fz,Obj.map E clk≠.cells C T fz:=by intros;simp
     obtain⟨zv,hz1,hz2⟩:=run_zOf hz w
     have key:∃u,(e.getD z).R m H.length u∧(Instr.lookup T (ρc a) (ρc k) ok).run K.P w=.ok (if ok=true then .tuple #[u,.bool e.isSome] else u) w:=by
      cases e with
      |none=>
       have hfn:Instr.findNow d (ρc k) E.toList 0=some none:=hfn
       refine⟨zv,vOf_R hz2 _ _,?_⟩
       unfold Instr.lookup
       rw[hav]
       simp only[Sem.run_bind,run_underlying hu,Result.andThen_ok,run_getObj hE1 hnc,Sem.run_pure]
       rw[show (10000:Nat)=9999+1 from rfl,run_checkKey hd2 hd1]
       simp only[Result.andThen_ok,Instr.findKey,Sem.run_bind,run_underlying hd1,hfn,Sem.run_pure,hz1]
       rfl
      |some v=>
       obtain⟨j,u,hfn,hu'⟩:=hfn
       refine⟨u,hu',?_⟩
       unfold Instr.lookup
       rw[hav]
       simp only[Sem.run_bind,run_underlying hu,Result.andThen_ok,run_getObj hE1 hnc,Sem.run_pure]
       rw[show (10000:Nat)=9999+1 from rfl,run_checkKey hd2 hd1]
       simp only[Result.andThen_ok,Instr.findKey,Sem.run_bind,run_underlying hd1,hfn,Sem.run_pure]
       rfl
     obtain⟨u,hu1,hu2⟩:=key
     rw[hu2]
     cases ok with
     |false=>
      simp only[Bool.false_eq_true,if_false,Option.some.injEq] at h
      subst h
      exact Good.val hR hu1
     |true=>
      simp only[if_true] at h
      cases hp:(e.getD z).pc with
      |none=>simp[hp] at h
      |some p=>
       simp[hp] at h;subst h
       have hpR:p.R m H.length u:=by
        cases hv:e.getD z with
        |c x=>rw[hv] at hu1 hp;simp[V.pc] at hp;subst hp;exact hu1
        |agg x=>rw[hv] at hu1 hp;simp[V.pc] at hp;subst hp;exact hu1
        |tup x=>rw[hv] at hp;simp[V.pc] at hp
       exact Good.val hR ⟨#[u,.bool e.isSome],rfl,.cons hpR (.cons rfl .nil)⟩
   ·cases h
  ·cases h
 ·cases h
theorem maxI_R {n:Nat} {f:Int→Int→Int} {g:Value→Value→Sem Value} (hg:∀k a b,g (.int k a) (.int k b)=pure (.int k (f a b))) {x:V} {ys:List V} {xv:Value} {yvs:List Value} (hx:x.R m n xv) (hy:All2 (V.R m n) ys yvs) {v:V} (h:maxI x ys f=some v) (P:Program) (w:World):
  ∃u,(yvs.foldlM g xv).run P w=.ok u w∧v.R m n u:=by
 unfold maxI at h
 split at h
 ·rename_i k a
  cases hx
  induction hy generalizing a with
  |nil=>simp at h;subst h;exact⟨_,rfl,rfl⟩
  |@cons y yv ys yvs hy1 _ ih=>
   simp only[List.foldlM_cons] at h
   cases y with
   |c c=>
    cases c with
    |int k' b=>
     by_cases hkk:k=k'
     ·subst hkk
      simp only[if_true,Option.bind_eq_bind,Option.bind_some] at h
      obtain⟨u,h1,h2⟩:=ih _ h
      refine⟨u,?_,h2⟩
      have:yv=.int k b:=hy1
      rw[List.foldlM_cons,this,hg]
      simpa using h1
     ·simp[hkk] at h
    |_=>simp at h
   |_=>simp at h
 ·cases h
theorem good_mx (hR:Rel K m base H w) (hρ:Ops K m H.length ρ ρc) {ts:Array TypeId} {ty:TypeId} {cn:Array Bool} {x:Operand} {ys:List Operand} {x':X} {ys':List X} (hx:cX K.G x=some x') (hy:cXs K.G ys=some ys') {args:Array Value} (ha:args.toList=ρc x :: ys.map ρc)
  (h:aop ρ (.mx x' ys') H=some r):Good K base m H w ((builtin .max ts ty cn args).run K.P w) r:=by
 simp only[aop] at h
 cases hm:maxI (ρ x') (ys'.map ρ) fun a b=>if b > a then b else a with
 |none=>simp[hm] at h
 |some v=>
  simp[hm] at h;subst h
  obtain⟨u,h1,h2⟩:=maxI_R (g:=Builtin.max2) (fun k a b=>rfl) (hρ x x' hx) (cXs_R hρ hy) hm K.P w
  unfold builtin
  simp only[]
  rw[run_v]
  have:(Builtin.max_ ts ty args).run K.P w=.ok u w:=by unfold Builtin.max_;rw[ha];exact h1
  rw[this]
  exact Good.val hR h2
theorem good_mn (hR:Rel K m base H w) (hρ:Ops K m H.length ρ ρc) {ts:Array TypeId} {ty:TypeId} {cn:Array Bool} {x:Operand} {ys:List Operand} {x':X} {ys':List X} (hx:cX K.G x=some x') (hy:cXs K.G ys=some ys') {args:Array Value} (ha:args.toList=ρc x :: ys.map ρc)
  (h:aop ρ (.mn x' ys') H=some r):Good K base m H w ((builtin .min ts ty cn args).run K.P w) r:=by
 simp only[aop] at h
 cases hm:maxI (ρ x') (ys'.map ρ) fun a b=>if b<a then b else a with
 |none=>simp[hm] at h
 |some v=>
  simp[hm] at h;subst h
  obtain⟨u,h1,h2⟩:=maxI_R (g:=Builtin.min2) (fun k a b=>rfl) (hρ x x' hx) (cXs_R hρ hy) hm K.P w
  unfold builtin
  simp only[]
  rw[run_v]
  have:(Builtin.min_ ts ty args).run K.P w=.ok u w:=by unfold Builtin.min_;rw[ha];exact h1
  rw[this]
  exact Good.val hR h2
end
end Go.Proofs.YtjcgdcadflplcaaDoor.AM
