/- AM, first text: an abstract machine for a part of the translated language. Memory is a list of blocks that are numbered in the order in which they are made; `append` makes a new block whenever the old one's room is not known, and the old one is then dead. -/
import Derived.RangeFuncLeaves
import Derived.Laws.Entries
import Derived.Below
set_option linter.unusedVariables false
set_option linter.unusedSimpArgs false
namespace Go.Proofs.Ytnepeleepmhdaaa.AM
open Go

/-- A place in memory: a block's number, and how many cells on. -/
abbrev Ad := Nat × Nat

/-- What one cell may hold. -/
inductive Cell where
  | bool (b : Bool)
  | int (k : IntKind) (n : Int)
  | str (s : ByteArray)
  | ptr (a : Option Ad)
  | sl (a : Option Ad) (n c : Nat) (opn : Bool)
  | map (r : Option Nat)
  | fn (f : FuncId) (first caps : List Ad)
  | yld (l : Nat)
  | nilFn
  | nilIface

/-- A component of a tuple. -/
inductive Pc where
  | c (x : Cell)
  | agg (l : List Cell)

/-- What a slot holds. -/
inductive V where
  | c (x : Cell)
  | agg (l : List Cell)
  | tup (l : List Pc)

abbrev V.undef : V := .tup []
def Pc.v : Pc → V
  | .c x => .c x
  | .agg l => .agg l
def V.pc : V → Option Pc
  | .c x => some (.c x)
  | .agg l => some (.agg l)
  | .tup _ => none
def V.cells : V → Option (List Cell)
  | .c x => some [x]
  | .agg l => some l
  | .tup _ => none

/-- An operand. -/
inductive X where
  | t (i : Nat)
  | k (v : V)

/-- What two values that are held against nil, or each other, are. -/
inductive EK where
  | bool | ptr | sl | map | fn
  deriving DecidableEq

/-- What a map's keys are. -/
inductive KK where
  | int | bool | str
  deriving DecidableEq

/-- Operations. -/
inductive IOp where
  | mv (x : X)
  | pick (c a b : X)
  | bad
  | box (T : TypeId) (x : X)
  | new (T : TypeId) (z : V)
  | build (z : List Cell) (ps : List (Nat × Nat × X))
  | bsl (T : TypeId) (len : Nat) (z : List Cell) (ps : List (Nat × Nat × X))
  | ld (n : Option Nat) (x : X)
  | st (n : Nat) (a x : X)
  | nilck (x : X)
  | bin (op : BinOp) (x y : X)
  | eq (k : EK) (neg : Bool) (x y : X)
  | eqagg (L : List KK) (neg : Bool) (x y : X)
  | un (op : UnOp) (x : X)
  | cv (k : IntKind) (x : X)
  | b2s (x : X)
  | s2b (T : TypeId) (x : X)
  | mkfn (f : FuncId) (first caps : List X)
  | mkmap (h : Option X)
  | ins (kk : KK) (m k v : X)
  | look (kk : KK) (z : V) (ok : Bool) (m k : X)
  | mksl (T : TypeId) (sz by_ : Nat) (z : List Cell) (len cap : X)
  | slS (sz : Nat) (x : X) (lo hi mx : Option X)
  | slA (n sz : Nat) (x : X) (lo hi mx : Option X)
  | slT (x : X) (lo hi : Option X)
  | fa (off : Nat) (x : X)
  | fld (off : Nat) (n : Option Nat) (x : X)
  | iaS (sz : Nat) (x i : X)
  | iaA (len sz : Nat) (x i : X)
  | ix (len sz : Nat) (n : Option Nat) (x i : X)
  | ixT (x i : X)
  | ext (x : X) (i : Nat)
  | call (f : X) (args : List X)
  | len (str : Bool) (x : X)
  | lenK (n : Nat)
  | app (T : TypeId) (sz by_ : Nat) (s x : X)
  | appT (T : TypeId) (s x : X)
  | cpy (sz : Nat) (d s : X)
  | clr (sz : Nat) (z : List Cell) (x : X)
  | mx (x : X) (ys : List X)
  | mn (x : X) (ys : List X)

/-- The operands of an operation. -/
def IOp.xs : IOp → List X
  | .mv x | .box _ x | .ld _ x | .nilck x | .un _ x | .cv _ x | .b2s x | .s2b _ x | .fa _ x | .fld _ _ x | .ext x _ | .len _ x | .clr _ _ x => [x]
  | .pick a b c => [a, b, c]
  | .bad | .new .. | .lenK _ => []
  | .build _ ps | .bsl _ _ _ ps => ps.map fun p => p.2.2
  | .st _ a x | .bin _ a x | .eq _ _ a x | .eqagg _ _ a x | .iaS _ a x | .iaA _ _ a x | .ix _ _ _ a x | .ixT a x | .app _ _ _ a x | .appT _ a x | .cpy _ a x => [a, x]
  | .mkfn _ a b => a ++ b
  | .mkmap h => h.toList
  | .ins _ a b c => [a, b, c]
  | .look _ _ _ a b => [a, b]
  | .mksl _ _ _ _ a b => [a, b]
  | .slS _ x a b c | .slA _ _ x a b c => x :: (a.toList ++ b.toList ++ c.toList)
  | .slT x a b => x :: (a.toList ++ b.toList)
  | .call f l => f :: l
  | .mx x l | .mn x l => x :: l

structure IOper where
  dst : Option Nat
  op : IOp
  guard : Option (Nat × Bool)

/-- Code. -/
inductive IC where
  | skip
  | ops (l : List IOper)
  | seq (x y : IC)
  | cond (c : X) (x y : IC)
  | block (id : Nat) (b : IC)
  | loop (b : IC)
  | rangeF (f : X) (ps : List Nat) (assign body : IC)
  | exit (id : Nat)
  | ret
  | bad

/-- How code is left. -/
inductive Ex where
  | normal
  | exit (id : Nat)
  | ret
  deriving DecidableEq

inductive LSt where
  | ready | busy | done | exhausted
  deriving DecidableEq

structure LRec where
  t : List V
  ps : List Nat
  assign : IC
  body : IC
  defers : Nat

/-- A block. `ro`: nobody may write it. `gr`: made by an append: it may have room behind what is seen, of elements of that many cells. -/
inductive Blk where
  | cells (cs : List Cell) (ro : Bool) (gr : Option Nat)
  | dead
  | map (es : List (Cell × V))
  | loop (st : LSt) (pend : Option Ex) (r : LRec)
  | defd
  | shut

abbrev Heap := List Blk

def Heap.cells (H : Heap) (b : Nat) : Option (List Cell) :=
  match H[b]? with
  | some (.cells cs _ _) => some cs
  | _ => none
/-- Cells in a row. -/
def sub (cs : List Cell) (o n : Nat) : Option (List Cell) := if o + n ≤ cs.length then some ((cs.drop o).take n) else none
def Heap.ldn (H : Heap) (a : Ad) (n : Nat) : Option (List Cell) := (H.cells a.1).bind fun cs => sub cs a.2 n
def Heap.ld (H : Heap) (a : Ad) : Option Cell := (H.cells a.1).bind fun cs => cs[a.2]?
/-- A variable, read: one cell, or so many. -/
def Heap.rd (H : Heap) (a : Ad) : Option Nat → Option V
  | none => (H.ld a).map .c
  | some n => (H.ldn a n).map .agg
/-- A part of a value. -/
def prd (cs : List Cell) (o : Nat) : Option Nat → Option V
  | none => (cs[o]?).map .c
  | some n => (sub cs o n).map .agg
/-- Cells in a row, written. -/
def put (cs : List Cell) : Nat → List Cell → List Cell
  | _, [] => cs
  | o, x :: xs => put (cs.set o x) (o + 1) xs
def Heap.st (H : Heap) (a : Ad) (xs : List Cell) : Option Heap :=
  match H[a.1]? with
  | some (.cells cs false gr) => if a.2 + xs.length ≤ cs.length then some (H.set a.1 (.cells (put cs a.2 xs) false gr)) else none
  | _ => none

def X.ev (t : List V) : X → V
  | .t i => (t[i]?).getD .undef
  | .k v => v
def putT (t : List V) (d : Option Nat) (v : V) : List V :=
  match d with
  | some d => t.set d v
  | none => t

/-- What a literal's parts make of its zero value. -/
def fillB (cs : List Cell) : List (Nat × Nat × V) → Option (List Cell)
  | [] => some cs
  | (o, n, v) :: r =>
    match v.cells with
    | some xs => if xs.length = n ∧ o + n ≤ cs.length then fillB (put cs o xs) r else none
    | none => none

def binI (op : BinOp) (k : IntKind) (x : Int) (k' : IntKind) (y : Int) : Option Cell :=
  match op with
  | .shl => if y < 0 then none else some (.int k (k.wrap (x * 2 ^ (min y.toNat k.bits))))
  | .shr => if y < 0 then none else some (.int k (x.fdiv (2 ^ (min y.toNat k.bits))))
  | op => if k ≠ k' then none else
    match op with
    | .add => some (.int k (k.wrap (x + y)))
    | .sub => some (.int k (k.wrap (x - y)))
    | .mul => some (.int k (k.wrap (x * y)))
    | .quo => if y = 0 then none else some (.int k (k.wrap (x.tdiv y)))
    | .rem => if y = 0 then none else some (.int k (x.tmod y))
    | .and => some (.int k (bits .and k x y))
    | .or => some (.int k (bits .or k x y))
    | .xor => some (.int k (bits .xor k x y))
    | .andNot => some (.int k (bits .andNot k x y))
    | .eql => some (.bool (x == y))
    | .neq => some (.bool (x != y))
    | .lss => some (.bool (decide (x < y)))
    | .leq => some (.bool (decide (x ≤ y)))
    | .gtr => some (.bool (decide (x > y)))
    | .geq => some (.bool (decide (x ≥ y)))
    | _ => none
def binC (op : BinOp) : Cell → Cell → Option Cell
  | .int k x, .int k' y => binI op k x k' y
  | .str x, .str y =>
    match op with
    | .eql => some (.bool (x.toList == y.toList))
    | .neq => some (.bool !(x.toList == y.toList))
    | .add => if ((x.size + y.size : Nat) : Int) > IntKind.i64.max then none else some (.str (x ++ y))
    | _ => none
  | _, _ => none
def eqC (k : EK) (x y : Cell) : Option Bool :=
  match k, x, y with
  | .bool, .bool a, .bool b => some (a == b)
  | .ptr, .ptr none, .ptr b => some b.isNone
  | .ptr, .ptr _, .ptr none => some false
  | .sl, .sl none _ _ _, .sl b _ _ _ => some b.isNone
  | .sl, .sl _ _ _ _, .sl none _ _ _ => some false
  | .map, .map none, .map b => some b.isNone
  | .map, .map _, .map none => some false
  | .fn, .nilFn, .nilFn => some true
  | .fn, .nilFn, .fn .. => some false
  | .fn, .fn .., .nilFn => some false
  | _, _, _ => none
/-- Are two rows of plain cells of known kinds the same? -/
def eqCs : List KK → List Cell → List Cell → Option Bool
  | [], [], [] => some true
  | .int :: L, .int k a :: x, .int k' b :: y => if k = k' then if a == b then eqCs L x y else some false else none
  | .bool :: L, .bool a :: x, .bool b :: y => if a == b then eqCs L x y else some false
  | .str :: L, .str a :: x, .str b :: y => if a == b then eqCs L x y else some false
  | _, _, _ => none

def unC (op : UnOp) : Cell → Option Cell
  | .int k n =>
    match op with
    | .neg => some (.int k (k.wrap (0 - n)))
    | .xor => some (.int k (bits .xor k (if k.signed then -1 else k.max) n))
    | _ => none
  | .bool b =>
    match op with
    | .not => some (.bool !b)
    | _ => none
  | _ => none

/-- The bytes in a row of cells. -/
def bytesOf : List Cell → Option (List UInt8)
  | [] => some []
  | .int .u8 n :: r => (bytesOf r).map (n.toNat.toUInt8 :: ·)
  | _ => none
def byteCells (s : ByteArray) : List Cell := s.data.toList.map fun b => .int .u8 b.toNat

def KK.ok : KK → Cell → Bool
  | .int, .int .. => true
  | .bool, .bool _ => true
  | .str, .str _ => true
  | _, _ => false
/-- A key among a map's entries. -/
def findE (k : Cell) : List (Cell × V) → Option (Option V)
  | [] => some none
  | (k', v) :: r =>
    match k, k' with
    | .int i a, .int j b => if i = j then if a == b then some (some v) else findE k r else none
    | .str a, .str b => if a == b then some (some v) else findE k r
    | .bool a, .bool b => if a == b then some (some v) else findE k r
    | _, _ => none

def asI : V → Option Int
  | .c (.int _ n) => some n
  | _ => none
/-- A slice's bounds: they must fit. -/
def bnd (v : Option V) (dflt top : Nat) : Option Nat :=
  match v with
  | none => some dflt
  | some v => (asI v).bind fun i => if 0 ≤ i ∧ i ≤ top then some i.toNat else none
def bnds (n c : Nat) (lo hi mx : Option V) : Option (Nat × Nat × Nat) :=
  match hi, mx with
  | none, some _ => none
  | _, _ => (bnd mx c c).bind fun m => (bnd hi n m).bind fun h => (bnd lo 0 h).map fun l => (l, h, m)
def addA (a : Ad) (n : Nat) : Ad := (a.1, a.2 + n)

def adOf : V → Option Ad
  | .c (.ptr (some a)) => some a
  | _ => none
def adsOf (l : List V) : Option (List Ad) := l.mapM adOf

/-- What an operation comes to. -/
inductive AN where
  | v (x : V)
  | call (f : FuncId) (args : List V)
  | yld (l : Nat) (args : List V)

abbrev pV (a : Ad) : V := V.c (.ptr (some a))
def most : Nat := 2 ^ 40
def grows (l : List Cell) (n : Nat) : List Cell := (List.replicate n l).flatten

def appH (H : Heap) (sz by_ : Nat) (a : Option Ad) (n c : Nat) (opn : Bool) (k : Nat) (new : List Cell) : Option (AN × Heap) :=
  if n + k ≤ c then
    match a with
    | none => if k = 0 then some (.v (.c (.sl none n c opn)), H) else none
    | some a => if k = 0 then some (.v (.c (.sl (some a) n c opn)), H) else (H.st (addA a (n * sz)) new).map fun H' => (.v (.c (.sl (some a) (n + k) c opn)), H')
  else if (n + k) * (by_ + 1) > most then none
  else
    match a with
    | none => if n = 0 ∧ c = 0 ∧ opn = false then some (.v (.c (.sl (some (H.length, 0)) k k true)), H ++ [.cells new false (some sz)]) else none
    | some a =>
      (H.ldn a (n * sz)).bind fun old =>
        if opn then
          match H[a.1]? with
          | some (.cells cs false (some sz')) =>
            if sz' = sz ∧ a.2 + c * sz = cs.length then
              some (.v (.c (.sl (some (H.length, 0)) (n + k) (n + k) true)), (H.set a.1 .dead) ++ [.cells (old ++ new) false (some sz)])
            else none
          | _ => none
        else some (.v (.c (.sl (some (H.length, 0)) (n + k) (n + k) true)), H ++ [.cells (old ++ new) false (some sz)])

def maxI (x : V) (ys : List V) (f : Int → Int → Int) : Option V :=
  match x with
  | .c (.int k n) => (ys.foldlM (fun (m : Int) (y : V) => match y with | .c (.int k' b) => if k = k' then some (f m b) else none | _ => none) n).map fun m => .c (.int k m)
  | _ => none

def aop (ρ : X → V) : IOp → Heap → Option (AN × Heap)
  | .mv x, H => some (.v (ρ x), H)
  | .pick c a b, H =>
    match ρ c with
    | .c (.bool t) => some (.v (if t then ρ a else ρ b), H)
    | _ => none
  | .bad, _ => none
  | .box _ x, H => (ρ x).cells.map fun cs => (.v (.c (.ptr (some (H.length, 0)))), H ++ [.cells cs false none])
  | .new _ z, H => z.cells.map fun cs => (.v (.c (.ptr (some (H.length, 0)))), H ++ [.cells cs false none])
  | .build z ps, H => (fillB z (ps.map fun p => (p.1, p.2.1, ρ p.2.2))).map fun cs => (.v (.agg cs), H)
  | .bsl _ len z ps, H => (fillB z (ps.map fun p => (p.1, p.2.1, ρ p.2.2))).map fun cs => (.v (.c (.sl (some (H.length, 0)) len len false)), H ++ [.cells cs false none])
  | .ld n x, H => (adOf (ρ x)).bind fun a => (H.rd a n).map fun v => (.v v, H)
  | .st n a x, H => (adOf (ρ a)).bind fun a => (ρ x).cells.bind fun cs => if cs.length = n then (H.st a cs).map fun H' => (.v .undef, H') else none
  | .nilck x, H =>
    match ρ x with
    | .c (.ptr (some a)) => some (.v (.c (.ptr (some a))), H)
    | .c (.fn f g h) => some (.v (.c (.fn f g h)), H)
    | _ => none
  | .bin op x y, H =>
    match ρ x, ρ y with
    | .c x, .c y => (binC op x y).map fun c => (.v (.c c), H)
    | _, _ => none
  | .eq k neg x y, H =>
    match ρ x, ρ y with
    | .c x, .c y => (eqC k x y).map fun b => (.v (.c (.bool (b != neg))), H)
    | _, _ => none
  | .eqagg L neg x y, H =>
    match ρ x, ρ y with
    | .agg x, .agg y => if x.length = L.length ∧ y.length = L.length then (eqCs L x y).map fun b => (.v (.c (.bool (b != neg))), H) else none
    | _, _ => none
  | .un op x, H =>
    match ρ x with
    | .c x => (unC op x).map fun c => (.v (.c c), H)
    | _ => none
  | .cv k x, H =>
    match ρ x with
    | .c (.int _ n) => some (.v (.c (.int k (k.wrap n))), H)
    | _ => none
  | .b2s x, H =>
    match ρ x with
    | .c (.sl none 0 _ _) => some (.v (.c (.str ⟨#[]⟩)), H)
    | .c (.sl (some a) n _ _) => ((H.ldn a n).bind bytesOf).map fun l => (.v (.c (.str ⟨l.toArray⟩)), H)
    | _ => none
  | .s2b _ x, H =>
    match ρ x with
    | .c (.str s) => some (.v (.c (.sl (some (H.length, 0)) s.size s.size true)), H ++ [.cells (byteCells s) false (some 1)])
    | _ => none
  | .mkfn f first caps, H => (adsOf (first.map ρ)).bind fun fs => (adsOf (caps.map ρ)).map fun cs => (.v (.c (.fn f fs cs)), H)
  | .mkmap h, H =>
    match h with
    | none => some (.v (.c (.map (some H.length))), H ++ [.map []])
    | some x => (asI (ρ x)).map fun _ => (.v (.c (.map (some H.length))), H ++ [.map []])
  | .ins kk m k v, H =>
    match ρ m, ρ k with
    | .c (.map (some r)), .c k =>
      match H[r]? with
      | some (.map es) =>
        if kk.ok k then
          match findE k es with
          | some none => some (.v .undef, H.set r (.map (es ++ [(k, ρ v)])))
          | _ => none
        else none
      | _ => none
    | _, _ => none
  | .look kk z ok m k, H =>
    match ρ m, ρ k with
    | .c (.map (some r)), .c k =>
      match H[r]? with
      | some (.map es) =>
        if kk.ok k then
          (findE k es).bind fun e =>
            if ok then ((e.getD z).pc).map fun p => (.v (.tup [p, .c (.bool e.isSome)]), H) else some (.v (e.getD z), H)
        else none
      | _ => none
    | _, _ => none
  | .mksl _ sz by_ z len cap, H => (asI (ρ len)).bind fun l => (asI (ρ cap)).bind fun c =>
    if 0 ≤ l ∧ l ≤ c ∧ c * (by_ + 1) ≤ most ∧ (z.length = sz ∨ c = 0) then
      some (.v (.c (.sl (some (H.length, 0)) l.toNat c.toNat false)), H ++ [.cells (grows z c.toNat) false none])
    else none
  | .slS sz x lo hi mx, H =>
    match ρ x with
    | .c (.sl a n c opn) => (bnds n c (lo.map ρ) (hi.map ρ) (mx.map ρ)).bind fun (l, h, m) =>
      some (.v (.c (.sl (if m = l ∧ (opn && mx.isNone) = false then a else a.map (addA · (l * sz))) (h - l) (m - l) (opn && mx.isNone))), H)
    | _ => none
  | .slA n sz x lo hi mx, H =>
    match ρ x with
    | .c (.ptr (some a)) => (bnds n n (lo.map ρ) (hi.map ρ) (mx.map ρ)).map fun (l, h, m) =>
      (.v (.c (.sl (some (if m = l then a else addA a (l * sz))) (h - l) (m - l) false)), H)
    | _ => none
  | .slT x lo hi, H =>
    match ρ x with
    | .c (.str s) => (bnds s.size s.size (lo.map ρ) (hi.map ρ) none).map fun (l, h, _) => (.v (.c (.str (s.extract l h))), H)
    | _ => none
  | .fa off x, H => (adOf (ρ x)).map fun a => (.v (.c (.ptr (some (addA a off)))), H)
  | .fld off n x, H =>
    match ρ x with
    | .agg cs => (prd cs off n).map fun v => (.v v, H)
    | _ => none
  | .iaS sz x i, H =>
    match ρ x with
    | .c (.sl (some a) n _ _) => (asI (ρ i)).bind fun i => if 0 ≤ i ∧ i < n then some (.v (.c (.ptr (some (addA a (i.toNat * sz))))), H) else none
    | _ => none
  | .iaA len sz x i, H => (adOf (ρ x)).bind fun a => (asI (ρ i)).bind fun i => if 0 ≤ i ∧ i < len then some (.v (.c (.ptr (some (addA a (i.toNat * sz))))), H) else none
  | .ix len sz n x i, H =>
    match ρ x with
    | .agg cs => (asI (ρ i)).bind fun i =>
      if 0 ≤ i ∧ i < len then (prd cs (i.toNat * sz) n).map fun v => (.v v, H) else none
    | _ => none
  | .ixT x i, H =>
    match ρ x with
    | .c (.str s) => (asI (ρ i)).bind fun i => if 0 ≤ i then (s.data[i.toNat]?).map fun b => (.v (.c (.int .u8 b.toNat)), H) else none
    | _ => none
  | .ext x i, H =>
    match ρ x with
    | .tup l => (l[i]?).map fun p => (.v p.v, H)
    | _ => none
  | .call f args, H =>
    match ρ f with
    | .c (.fn g first caps) => some (.call g (first.map pV ++ args.map ρ ++ caps.map pV), H)
    | .c (.yld l) => some (.yld l (args.map ρ), H)
    | _ => none
  | .len str x, H =>
    match str, ρ x with
    | true, .c (.str s) => some (.v (.c (.int .i64 s.size)), H)
    | false, .c (.sl _ n _ _) => some (.v (.c (.int .i64 n)), H)
    | _, _ => none
  | .lenK n, H => some (.v (.c (.int .i64 n)), H)
  | .app _ sz by_ s x, H =>
    match ρ s, ρ x with
    | .c (.sl a n c opn), .c (.sl b k _ _) =>
      match b with
      | none => if k = 0 then appH H sz by_ a n c opn 0 [] else none
      | some b => (H.ldn b (k * sz)).bind fun new => appH H sz by_ a n c opn k new
    | _, _ => none
  | .appT _ s x, H =>
    match ρ s, ρ x with
    | .c (.sl a n c opn), .c (.str t) => appH H 1 1 a n c opn t.size (byteCells t)
    | _, _ => none
  | .cpy sz d s, H =>
    match ρ d, ρ s with
    | .c (.sl a n _ _), .c (.sl b k _ _) =>
      let j := min k n
      if j = 0 then some (.v (.c (.int .i64 0)), H) else
      match a, b with
      | some a, some b => (H.ldn b (j * sz)).bind fun new => (H.st a new).map fun H' => (.v (.c (.int .i64 j)), H')
      | _, _ => none
    | _, _ => none
  | .clr sz z x, H =>
    match ρ x with
    | .c (.sl a n _ _) =>
      if n = 0 then some (.v .undef, H) else
      match a with
      | some a => if z.length = sz then (H.st a (grows z n)).map fun H' => (.v .undef, H') else none
      | none => none
    | _ => none
  | .mx x ys, H => (maxI (ρ x) (ys.map ρ) fun a b => if b > a then b else a).map fun v => (.v v, H)
  | .mn x ys, H => (maxI (ρ x) (ys.map ρ) fun a b => if b < a then b else a).map fun v => (.v v, H)

/-- The slots that an operation looks at. -/
def IOper.slots (o : IOper) : List Nat := (o.op.xs.filterMap fun | .t i => some i | .k _ => none) ++ (match o.guard with | some (j, _) => [j] | none => [])
/-- Operations that neither write nor read memory; that read it. -/
def IOp.pure : IOp → Bool
  | .mv _ | .pick .. | .build .. | .nilck _ | .bin .. | .eq .. | .eqagg .. | .un .. | .cv .. | .mkfn .. | .slS .. | .slA .. | .slT .. | .fa .. | .fld .. | .iaS .. | .iaA .. | .ix .. | .ixT .. | .ext .. | .len .. | .lenK _ | .mx .. | .mn .. => true
  | _ => false
def IOp.reads : IOp → Bool
  | .ld .. | .b2s _ | .look .. => true
  | o => o.pure
/-- Two operations whose order does not matter. -/
def IOper.indep (x y : IOper) : Bool :=
  (match x.dst with | some d => !y.slots.contains d && y.dst != some d | none => true) && (match y.dst with | some d => !x.slots.contains d | none => true) &&
  ((x.op.reads && y.op.reads) || x.op.pure || y.op.pure)

structure IFn where
  ntmps : Nat
  body : IC
  res : List (Nat × Option (Option Nat))     -- a slot; a slot that holds a variable's address, and how it is read

structure St where
  t : List V
  ds : List Nat
  H : Heap

def wanted (t : List V) : Option (Nat × Bool) → Bool
  | none => true
  | some (j, b) => match t[j]? with
    | some (.c (.bool b')) => b' == b
    | _ => false

def resV (t : List V) (H : Heap) (r : Nat × Option (Option Nat)) : Option V :=
  match r.2 with
  | none => some ((t[r.1]?).getD .undef)
  | some n => (adOf ((t[r.1]?).getD .undef)).bind fun a => H.rd a n
def resOf (t : List V) (H : Heap) (rs : List (Nat × Option (Option Nat))) : Option V :=
  (rs.mapM (resV t H)).bind fun
    | [v] => some v
    | vs => (vs.mapM V.pc).map .tup
/-- The blocks for the calls that rounds have put off are shut. -/
def shutAll : List Nat → Heap → Option Heap
  | [], H => some H
  | D :: ds, H =>
    match H[D]? with
    | some .defd => shutAll ds (H.set D .shut)
    | _ => none

/-- A function: its code; or one of which is known what it does. -/
inductive Fun where
  | code (f : IFn)
  | ext (f : List V → Heap → Option (V × Heap))

abbrev Rec := Option Nat → IC → St → Option (Ex × St)

/-- A call. -/
def callR (F : FuncId → Option Fun) (rec : Rec) (f : FuncId) (args : List V) (H : Heap) : Option (V × Heap) :=
  match F f with
  | some (.code fn) =>
    (rec none fn.body ⟨args ++ List.replicate (fn.ntmps - args.length) .undef, [], H⟩).bind fun r =>
      match r.1 with
      | .exit _ => none
      | _ => (shutAll r.2.ds r.2.H).bind fun H' => (resOf r.2.t H' fn.res).map fun v => (v, H')
  | some (.ext g) => g args H
  | none => none
/-- A round of a loop over a function. -/
def roundR (rec : Rec) (l : Nat) (args : List V) (H : Heap) : Option (V × Heap) :=
  match H[l]? with
  | some (.loop .ready pd r) =>
    if args.length = r.ps.length then
      (rec (some l) r.assign ⟨(r.ps.zip args).foldl (fun t p => t.set p.1 p.2) r.t, [], H⟩).bind fun q =>
        match q.1, q.2.H[l]? with
        | .normal, some (.loop .ready pd r₁) =>
          (rec (some l) r.body ⟨q.2.t, q.2.ds, q.2.H.set l (.loop .busy pd r₁)⟩).bind fun q =>
            match q.2.H[l]? with
            | some (.loop .busy _ r₂) =>
              match q.1 with
              | .normal => some (.c (.bool true), q.2.H.set l (.loop .ready none r₂))
              | e => some (.c (.bool false), q.2.H.set l (.loop .done (some e) r₂))
            | _ => none
        | _, _ => none
    else none
  | _ => none
def opsR (F : FuncId → Option Fun) (rec : Rec) : List IOper → List V → Heap → Option (List V × Heap)
  | [], t, H => some (t, H)
  | o :: r, t, H =>
    if wanted t o.guard then
      (aop (X.ev t) o.op H).bind fun
        | (.v x, H') => opsR F rec r (putT t o.dst x) H'
        | (.call f args, H') => (callR F rec f args H').bind fun q => opsR F rec r (putT t o.dst q.1) q.2
        | (.yld l args, H') => (roundR rec l args H').bind fun q => opsR F rec r (putT t o.dst q.1) q.2
    else opsR F rec r (putT t o.dst .undef) H
def exOf : Ex → IC
  | .normal => .skip
  | .exit i => .exit i
  | .ret => .ret

def stepR (F : FuncId → Option Fun) (rec : Rec) : Rec := fun rd c s =>
  match c with
  | .skip => some (.normal, s)
  | .ops l => (opsR F rec l s.t s.H).map fun q => (.normal, ⟨q.1, s.ds, q.2⟩)
  | .seq x y => (rec rd x s).bind fun q =>
    match q.1 with
    | .normal => rec rd y q.2
    | e => some (e, q.2)
  | .cond c x y =>
    match c.ev s.t with
    | .c (.bool b) => rec rd (if b then x else y) s
    | _ => none
  | .block id b => (rec rd b s).map fun q => (if q.1 = .exit id then .normal else q.1, q.2)
  | .loop b => (rec rd b s).bind fun q =>
    match q.1 with
    | .normal => rec rd (.loop b) q.2
    | e => some (e, q.2)
  | .exit id => some (.exit id, s)
  | .ret => some (.ret, s)
  | .bad => none
  | .rangeF f ps assign body =>
    match rd with
    | none =>
      let D := s.H.length
      let H := s.H ++ [.defd, .loop .ready none ⟨s.t, ps, assign, body, D⟩]
      runRange F rec rd f s.t (D :: s.ds) (D + 1) H
    | some l₀ =>
      match s.H[l₀]? with
      | some (.loop _ _ r₀) =>
        let L := s.H.length
        runRange F rec rd f s.t s.ds L (s.H ++ [.loop .ready none ⟨s.t, ps, assign, body, r₀.defers⟩])
      | _ => none
  where
  runRange (F : FuncId → Option Fun) (rec : Rec) (rd : Option Nat) (f : X) (t : List V) (ds : List Nat) (l : Nat) (H : Heap) : Option (Ex × St) :=
    match f.ev t with
    | .c (.fn g first caps) =>
      (callR F rec g (first.map pV ++ [V.c (.yld l)] ++ caps.map pV) H).bind fun q =>
        match q.2[l]? with
        | some (.loop .busy _ _) => none
        | some (.loop _ pd r) =>
          match pd with
          | none => some (.normal, ⟨t, ds, q.2.set l (.loop .exhausted pd r)⟩)
          | some e => rec rd (exOf e) ⟨t, ds, q.2.set l (.loop .exhausted pd r)⟩
        | _ => none
    | _ => none

/-- The machine, with a bound on how deep it goes. -/
def run (F : FuncId → Option Fun) : Nat → Rec
  | 0 => fun _ _ _ => none
  | k + 1 => stepR F (run F k)

end Go.Proofs.Ytnepeleepmhdaaa.AM
