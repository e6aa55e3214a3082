/- AM, second text: how an abstract state stands to the machine's. -/
import Derived.Test.YtnepeleepmhdaaaAM1
import Derived.Orders
set_option linter.unusedVariables false
set_option linter.unusedSimpArgs false
namespace Go.Proofs.Ytnepeleepmhdaaa.AM
open Go Go.RowKit

/-- Where a block lies: a block of the machine's, from a cell on; how many elements of room it has behind what is seen. -/
structure Loc where
  blk : Nat
  off : Nat
  extra : Nat
abbrev Inj := Nat → Loc

def adr (m : Inj) (a : Ad) : Addr := ⟨(m a.1).blk, (m a.1).off + a.2, none⟩
def ptrV (m : Inj) (a : Ad) : Value := .pointer (some (adr m a))

def Cell.R (m : Inj) (n : Nat) : Cell → Value → Prop
  | .bool b, v => v = .bool b
  | .int k i, v => v = .int k i
  | .str s, v => v = .string s
  | .ptr none, v => v = .pointer none
  | .ptr (some a), v => a.1 < n ∧ v = ptrV m a
  | .sl none k c o, v => k = 0 ∧ c = 0 ∧ o = false ∧ v = .slice none 0 0
  | .sl (some a) k c o, v => a.1 < n ∧ k ≤ c ∧ ∃ A c', v = .slice (some A) k c' ∧ (c' = if o then c + (m a.1).extra else c) ∧ (A = adr m a ∨ c' = 0)
  | .map none, v => v = .map none
  | .map (some r), v => r < n ∧ v = .map (some (m r).blk)
  | .fn f fs cs, v => (∀ a ∈ fs, a.1 < n) ∧ (∀ a ∈ cs, a.1 < n) ∧ v = .func (.func f) (fs.map (ptrV m)).toArray (cs.map (ptrV m)).toArray
  | .yld l, v => l < n ∧ v = .func (.yield (m l).blk) #[] #[]
  | .nilFn, v => v = .nilFunc
  | .nilIface, v => v = .nilIface

/-- Two lists, place by place. -/
inductive All2 {α β : Type} (R : α → β → Prop) : List α → List β → Prop
  | nil : All2 R [] []
  | cons {a b l r} (h : R a b) (t : All2 R l r) : All2 R (a :: l) (b :: r)

section
variable {α β : Type} {R S : α → β → Prop}
theorem All2.imp {l : List α} {r : List β} (h : All2 R l r) (hi : ∀ a b, R a b → S a b) : All2 S l r := by
  induction h with
  | nil => exact .nil
  | cons h _ ih => exact .cons (hi _ _ h) ih
theorem All2.length {l : List α} {r : List β} (h : All2 R l r) : l.length = r.length := by
  induction h with
  | nil => rfl
  | cons _ _ ih => simp [ih]
theorem All2.append {l l' : List α} {r r' : List β} (h : All2 R l r) (h' : All2 R l' r') : All2 R (l ++ l') (r ++ r') := by
  induction h with
  | nil => exact h'
  | cons h _ ih => exact .cons h ih
theorem All2.get {l : List α} {r : List β} (h : All2 R l r) : ∀ {i : Nat} {a : α}, l[i]? = some a → ∃ b, r[i]? = some b ∧ R a b := by
  induction h with
  | nil => intro i a e; simp at e
  | cons h _ ih =>
    intro i a e
    cases i with
    | zero => simp at e; subst e; exact ⟨_, by simp, h⟩
    | succ i => simp at e; obtain ⟨b, hb, hr⟩ := ih e; exact ⟨b, by simpa using hb, hr⟩
theorem All2.get_none {l : List α} {r : List β} (h : All2 R l r) {i : Nat} (e : l[i]? = none) : r[i]? = none := by
  have := h.length
  rw [List.getElem?_eq_none_iff] at e ⊢
  omega
theorem All2.of_get {l : List α} {r : List β} (hl : l.length = r.length) (h : ∀ (i : Nat) (a : α), l[i]? = some a → ∃ b, r[i]? = some b ∧ R a b) : All2 R l r := by
  induction l generalizing r with
  | nil => cases r with | nil => exact .nil | cons => simp at hl
  | cons a l ih =>
    cases r with
    | nil => simp at hl
    | cons b r =>
      obtain ⟨b', hb, hr⟩ := h 0 a (by simp)
      simp at hb; subst hb
      exact .cons hr (ih (by simpa using hl) fun i a e => by
        obtain ⟨b', hb, hr⟩ := h (i + 1) a (by simpa using e)
        exact ⟨b', by simpa using hb, hr⟩)
theorem All2.set {l : List α} {r : List β} (h : All2 R l r) {i : Nat} {a : α} {b : β} (hr : R a b) : All2 R (l.set i a) (r.set i b) := by
  induction h generalizing i with
  | nil => exact .nil
  | cons h t ih =>
    cases i with
    | zero => exact .cons hr t
    | succ i => exact .cons h (ih)
theorem All2.take {l : List α} {r : List β} (h : All2 R l r) : ∀ (k : Nat), All2 R (l.take k) (r.take k) := by
  induction h with
  | nil => intro k; simp; exact .nil
  | cons h _ ih => intro k; cases k with | zero => exact .nil | succ k => exact .cons h (ih k)
theorem All2.drop {l : List α} {r : List β} (h : All2 R l r) : ∀ (k : Nat), All2 R (l.drop k) (r.drop k) := by
  induction h with
  | nil => intro k; simp; exact .nil
  | cons h t ih => intro k; cases k with | zero => exact .cons h t | succ k => exact ih k
theorem All2.replicate {a : α} {b : β} (h : R a b) : ∀ k, All2 R (List.replicate k a) (List.replicate k b)
  | 0 => .nil
  | k + 1 => .cons h (All2.replicate h k)
theorem All2.map {γ δ : Type} {T : γ → δ → Prop} {f : γ → α} {g : δ → β} {l : List γ} {r : List δ} (h : All2 T l r) (hf : ∀ x y, T x y → R (f x) (g y)) : All2 R (l.map f) (r.map g) := by
  induction h with
  | nil => exact .nil
  | cons h _ ih => exact .cons (hf _ _ h) ih
end

abbrev RL (m : Inj) (n : Nat) : List Cell → List Value → Prop := All2 (Cell.R m n)
def Pc.R (m : Inj) (n : Nat) : Pc → Value → Prop
  | .c x, v => x.R m n v
  | .agg l, v => ∃ vs : Array Value, v = .agg vs ∧ RL m n l vs.toList
def V.R (m : Inj) (n : Nat) : V → Value → Prop
  | .c x, v => x.R m n v
  | .agg l, v => ∃ vs : Array Value, v = .agg vs ∧ RL m n l vs.toList
  | .tup l, v => ∃ vs : Array Value, v = .tuple vs ∧ All2 (Pc.R m n) l vs.toList

theorem Pc.R_v {m : Inj} {n : Nat} {p : Pc} {v : Value} : p.v.R m n v ↔ p.R m n v := by cases p <;> rfl
theorem V.R_undef (m : Inj) (n : Nat) : V.undef.R m n Go.undef := ⟨#[], rfl, .nil⟩

/-- One state's numbers go on to hold in a later one. -/
def Later (m : Inj) (n : Nat) (m' : Inj) (n' : Nat) : Prop := n ≤ n' ∧ ∀ b, b < n → m' b = m b
theorem Later.refl (m : Inj) (n : Nat) : Later m n m n := ⟨Nat.le_refl _, fun _ _ => rfl⟩
theorem Later.trans {m m' m'' : Inj} {n n' n'' : Nat} (h : Later m n m' n') (h' : Later m' n' m'' n'') : Later m n m'' n'' :=
  ⟨Nat.le_trans h.1 h'.1, fun b hb => (h'.2 b (Nat.lt_of_lt_of_le hb h.1)).trans (h.2 b hb)⟩
section
variable {m m' : Inj} {n n' : Nat}
theorem Later.adr (h : Later m n m' n') {a : Ad} (ha : a.1 < n) : AM.adr m' a = AM.adr m a := by simp [AM.adr, h.2 _ ha]
theorem Later.ptrV (h : Later m n m' n') {a : Ad} (ha : a.1 < n) : AM.ptrV m' a = AM.ptrV m a := by simp [AM.ptrV, h.adr ha]
theorem Later.ptrs (h : Later m n m' n') {l : List Ad} (ha : ∀ a ∈ l, a.1 < n) : l.map (AM.ptrV m') = l.map (AM.ptrV m) :=
  List.map_congr_left fun a hm => h.ptrV (ha a hm)
theorem Cell.R.later {c : Cell} {v : Value} (hR : c.R m n v) (h : Later m n m' n') : c.R m' n' v := by
  cases c with
  | ptr a =>
    cases a with
    | none => exact hR
    | some a => exact ⟨Nat.lt_of_lt_of_le hR.1 h.1, by rw [h.ptrV hR.1]; exact hR.2⟩
  | sl a k c o =>
    cases a with
    | none => exact hR
    | some a =>
      obtain ⟨h1, h0, A, c', h2, h3, h4⟩ := hR
      exact ⟨Nat.lt_of_lt_of_le h1 h.1, h0, A, c', h2, by rw [h.2 _ h1]; exact h3, by rw [h.adr h1]; exact h4⟩
  | map r =>
    cases r with
    | none => exact hR
    | some r => exact ⟨Nat.lt_of_lt_of_le hR.1 h.1, by rw [h.2 _ hR.1]; exact hR.2⟩
  | fn f fs cs =>
    exact ⟨fun a ha => Nat.lt_of_lt_of_le (hR.1 a ha) h.1, fun a ha => Nat.lt_of_lt_of_le (hR.2.1 a ha) h.1, by rw [h.ptrs hR.1, h.ptrs hR.2.1]; exact hR.2.2⟩
  | yld l => exact ⟨Nat.lt_of_lt_of_le hR.1 h.1, by rw [h.2 _ hR.1]; exact hR.2⟩
  | _ => exact hR
theorem RL.later {l : List Cell} {vs : List Value} (hR : RL m n l vs) (h : Later m n m' n') : RL m' n' l vs := hR.imp fun _ _ hr => hr.later h
theorem Pc.R.later {c : Pc} {v : Value} (hR : c.R m n v) (h : Later m n m' n') : c.R m' n' v := by
  cases c with
  | c x => exact Cell.R.later (c := x) hR h
  | agg l => obtain ⟨vs, e, hl⟩ := hR; exact ⟨vs, e, hl.later h⟩
theorem V.R.later {c : V} {v : Value} (hR : c.R m n v) (h : Later m n m' n') : c.R m' n' v := by
  cases c with
  | c x => exact Cell.R.later (c := x) hR h
  | agg l => obtain ⟨vs, e, hl⟩ := hR; exact ⟨vs, e, hl.later h⟩
  | tup l => obtain ⟨vs, e, hl⟩ := hR; exact ⟨vs, e, hl.imp fun _ _ hr => hr.later h⟩
end

theorem Cell.R.oneCell' {m : Inj} {n : Nat} {c : Cell} {v : Value} (h : c.R m n v) : v.oneCell' = true := by
  cases c with
  | ptr a => cases a with
    | none => simp [Cell.R] at h; subst h; rfl
    | some a => obtain ⟨_, rfl⟩ := h; rfl
  | sl a k c o => cases a with
    | none => obtain ⟨_, _, _, rfl⟩ := h; rfl
    | some a => obtain ⟨_, _, A, c', rfl, _⟩ := h; rfl
  | map r => cases r with
    | none => simp [Cell.R] at h; subst h; rfl
    | some r => obtain ⟨_, rfl⟩ := h; rfl
  | fn f fs cs => obtain ⟨_, _, rfl⟩ := h; rfl
  | yld l => obtain ⟨_, rfl⟩ := h; rfl
  | _ => simp [Cell.R] at h; subst h; rfl
theorem Cell.R.cells {m : Inj} {n : Nat} {c : Cell} {v : Value} (h : c.R m n v) : v.cells = #[v] := by
  have := h.oneCell'
  cases v <;> simp_all [Value.oneCell', Value.cells]
/-- A value's cells. -/
theorem V.R.cells {m : Inj} {n : Nat} {c : V} {v : Value} {l : List Cell} (h : c.R m n v) (hc : c.cells = some l) : RL m n l v.cells.toList := by
  cases c with
  | c x =>
    simp [V.cells] at hc; subst hc
    have h' : x.R m n v := h
    rw [h'.cells]; exact .cons h' .nil
  | agg l' =>
    simp [V.cells] at hc; subst hc
    obtain ⟨vs, rfl, hl⟩ := h
    exact hl
  | tup l' => simp [V.cells] at hc

/-! ### Literals -/
def cellOf : Value → Option Cell
  | .bool b => some (.bool b)
  | .int k n => some (.int k n)
  | .string s => some (.str s)
  | .pointer none => some (.ptr none)
  | .slice none 0 0 => some (.sl none 0 0 false)
  | .map none => some (.map none)
  | .nilFunc => some .nilFn
  | .nilIface => some .nilIface
  | _ => none
def cellsOf : List Value → Option (List Cell)
  | [] => some []
  | v :: r => (cellOf v).bind fun c => (cellsOf r).map (c :: ·)
def vOf : Value → Option V
  | .agg cs => (cellsOf cs.toList).map .agg
  | v => (cellOf v).map .c
theorem cellOf_R {v : Value} {c : Cell} (h : cellOf v = some c) (m : Inj) (n : Nat) : c.R m n v := by
  unfold cellOf at h
  split at h <;> first | (cases h; rfl) | (cases h; exact ⟨rfl, rfl, rfl, rfl⟩) | (cases h)
theorem cellsOf_R {vs : List Value} {cs : List Cell} (h : cellsOf vs = some cs) (m : Inj) (n : Nat) : RL m n cs vs := by
  induction vs generalizing cs with
  | nil => simp [cellsOf] at h; subst h; exact .nil
  | cons v r ih =>
    simp only [cellsOf] at h
    cases hc : cellOf v with
    | none => simp [hc] at h
    | some c =>
      cases hr : cellsOf r with
      | none => simp [hc, hr] at h
      | some l => simp [hc, hr] at h; subst h; exact .cons (cellOf_R hc m n) (ih hr)
theorem vOf_R {v : Value} {x : V} (h : vOf v = some x) (m : Inj) (n : Nat) : x.R m n v := by
  unfold vOf at h
  split at h
  · rename_i cs
    cases hc : cellsOf cs.toList with
    | none => simp [hc] at h
    | some l => simp [hc] at h; subst h; exact ⟨cs, rfl, cellsOf_R hc m n⟩
  · cases hc : cellOf v with
    | none => simp [hc] at h
    | some c => simp [hc] at h; subst h; exact cellOf_R hc m n

/-! ### Code, as this machine takes it -/
/-- An operand; `G`: which block holds a package-level variable. -/
def cX (G : Nat → Option Nat) : Operand → Option X
  | .tmp t => some (.t t)
  | .const v => (vOf v).map .k
  | .global g => (G g).map fun b => .k (.c (.ptr (some (b, 0))))
  | .func f => some (.k (.c (.fn f [] [])))
def cXs (G : Nat → Option Nat) : List Operand → Option (List X)
  | [] => some []
  | x :: r => (cX G x).bind fun y => (cXs G r).map (y :: ·)
def cXo (G : Nat → Option Nat) : Option Operand → Option (Option X)
  | none => some none
  | some x => (cX G x).map some
/-- How a variable of a type is read: one cell, or so many. -/
def rdOf (P : Program) (T : TypeId) : Option (Option Nat) :=
  match P.underlying T, P.info? T with
  | some (.struct _), some i => some (some i.size)
  | some (.array ..), some i => some (some i.size)
  | some _, some _ => some none
  | _, _ => none
def szOf (P : Program) (T : TypeId) : Option Nat := (P.info? T).map (·.size)
def zOf (P : Program) (T : TypeId) : Option V := ((P.info? T).bind (·.zero)).bind vOf
/-- What the cells of a type's values are, where values are the same just if their cells are. -/
def leavesF (P : Program) (rec : TypeId → Option (List KK)) : Nat → List Field → Option (List KK)
  | _, [] => some []
  | off, f :: fs =>
    if f.name ≠ "_" ∧ f.offset = off then
      (rec f.type).bind fun l => if szOf P f.type = some l.length then (leavesF P rec (off + l.length) fs).map (l ++ ·) else none
    else none
def leaves (P : Program) : Nat → TypeId → Option (List KK)
  | 0, _ => none
  | d + 1, T =>
    match P.underlying T with
    | some (.int _) => some [.int]
    | some .bool => some [.bool]
    | some .string => some [.str]
    | some (.struct fs) => if P.stoodInHeld T then none else leavesF P (leaves P d) 0 fs.toList
    | some (.array n e) => (leaves P d e).bind fun l => if szOf P e = some l.length then some (List.replicate n l).flatten else none
    | _ => none
def keyT (P : Program) (T : TypeId) : Option KK :=
  match P.underlying T with
  | some (.int _) => some .int
  | some .bool => some .bool
  | some .string => some .str
  | _ => none
def places (P : Program) (G : Nat → Option Nat) (at_ : Nat → Option (Nat × Nat)) : List (Nat × Operand) → Option (List (Nat × Nat × X))
  | [] => some []
  | (i, x) :: r => (at_ i).bind fun p => (cX G x).bind fun y => (places P G at_ r).map ((p.1, p.2, y) :: ·)
def fieldsAt (P : Program) (fs : Array Field) (i : Nat) : Option (Nat × Nat) := (fs[i]?).bind fun f => (szOf P f.type).map fun n => (f.offset, n)

def cBuiltin (P : Program) (G : Nat → Option Nat) (b : Builtin) (ts : Array TypeId) (args : List Operand) : Option IOp :=
  match b, args with
  | .len, [x] =>
    match (ts[0]?).bind P.underlying with
    | some .string => (cX G x).map (.len true)
    | some (.slice _) => (cX G x).map (.len false)
    | some (.array n _) => some (.lenK n)
    | some (.pointer e) => match P.underlying e with
      | some (.array n _) => some (.lenK n)
      | _ => none
    | _ => none
  | .append, [s, x] =>
    match (ts[0]?).bind P.underlying, (ts[1]?).bind P.underlying with
    | some (.slice e), some (.slice _) => (cX G s).bind fun s => (cX G x).bind fun x => (P.info? e).bind fun i => if i.zero.map (·.cells.size) = some i.size ∧ 0 < i.size then some (.app e i.size i.bytes s x) else none
    | some (.slice e), some .string => (cX G s).bind fun s => (cX G x).bind fun x => (P.info? e).bind fun i => if i.zero.map (·.cells.size) = some 1 ∧ i.size = 1 ∧ i.bytes = 1 then some (.appT e s x) else none
    | _, _ => none
  | .copy, [d, s] =>
    match (ts[0]?).bind P.underlying with
    | some (.slice e) => (cX G d).bind fun d => (cX G s).bind fun s => (szOf P e).map fun n => .cpy n d s
    | _ => none
  | .clear, [x] =>
    match (ts[0]?).bind P.underlying with
    | some (.slice e) => (cX G x).bind fun x => (zOf P e).bind fun z => z.cells.bind fun z => (szOf P e).map fun n => .clr n z x
    | _ => none
  | .max, x :: ys => (cX G x).bind fun x => (cXs G ys).map fun ys => .mx x ys
  | .min, x :: ys => (cX G x).bind fun x => (cXs G ys).map fun ys => .mn x ys
  | _, _ => none

def cOp (P : Program) (G : Nat → Option Nat) : Op → Option IOp
  | .move x | .assign x => (cX G x).map .mv
  | .pick c a b => (cX G c).bind fun c => (cX G a).bind fun a => (cX G b).map fun b => .pick c a b
  | .alloc T => (zOf P T).map fun z => .new T z
  | .box T x => (cX G x).map fun x => .box T x
  | .build T ps =>
    match P.underlying T with
    | some (.struct fs) => if fs.toList.all (fun f => (P.info? f.type).isSome) then (zOf P T).bind fun z => z.cells.bind fun z => (places P G (fieldsAt P fs) ps.toList).map fun ps => .build z ps else none
    | some (.array _ e) => (zOf P T).bind fun z => z.cells.bind fun z => (szOf P e).bind fun n => (places P G (fun i => some (i * n, n)) ps.toList).map fun ps => .build z ps
    | _ => none
  | .buildSlice T len ps =>
    match P.underlying T with
    | some (.slice e) => (zOf P e).bind fun z => z.cells.bind fun z => (szOf P e).bind fun n =>
      if z.length = n ∧ len * n ≤ 2 ^ 24 then (places P G (fun i => some (i * n, n)) ps.toList).map fun ps => .bsl e len (grows z len) ps else none
    | _ => none
  | .load T a => (cX G a).bind fun a => (rdOf P T).map fun n => .ld n a
  | .store T a x => (cX G a).bind fun a => (cX G x).bind fun x => (szOf P T).map fun n => .st n a x
  | .nilCheck x => (cX G x).map .nilck
  | .binOp op T x y _ => (cX G x).bind fun x => (cX G y).bind fun y =>
    match op with
    | .eql | .neq =>
      match P.underlying T with
      | some (.int _) | some .string => some (.bin op x y)
      | some .bool => some (.eq .bool (op == .neq) x y)
      | some (.pointer _) => some (.eq .ptr (op == .neq) x y)
      | some (.slice _) => some (.eq .sl (op == .neq) x y)
      | some (.map ..) => some (.eq .map (op == .neq) x y)
      | some (.func ..) => some (.eq .fn (op == .neq) x y)
      | some (.struct _) | some (.array ..) => if P.eqGuardType P.depth T then none else (leaves P 100 T).map fun L => .eqagg L (op == .neq) x y
      | _ => none
    | _ => some (.bin op x y)
  | .unOp op _ x => (cX G x).map fun x => .un op x
  | .convert s d x => (cX G x).bind fun x =>
    match P.underlying s, P.underlying d with
    | some (.int _), some (.int k) => some (.cv k x)
    | some (.slice e), some .string => match P.underlying e with
      | some (.int .u8) => some (.b2s x)
      | _ => none
    | some .string, some (.slice e) => match P.underlying e with
      | some (.int .u8) => none
      | _ => none
    | _, _ => none
  | .makeFunc (.func f) first caps => (cXs G first.toList).bind fun a => (cXs G caps.toList).map fun b => .mkfn f a b
  | .makeMap _ none => some (.mkmap none)
  | .makeMap T (some x) => match P.underlying T with
    | some (.map ..) => (cX G x).map fun x => .mkmap (some x)
    | _ => none
  | .insert T m k v | .mapUpdate T m k v =>
    match P.underlying T with
    | some (.map kt _) => (keyT P kt).bind fun kk => (cX G m).bind fun m => (cX G k).bind fun k => (cX G v).map fun v => .ins kk m k v
    | _ => none
  | .lookup T m k ok =>
    match P.underlying T with
    | some (.map kt e) => (keyT P kt).bind fun kk => (zOf P e).bind fun z => (cX G m).bind fun m => (cX G k).map fun k => .look kk z ok m k
    | _ => none
  | .makeSlice T l c =>
    match P.underlying T with
    | some (.slice e) => (zOf P e).bind fun z => z.cells.bind fun z => (P.info? e).bind fun i => (cX G l).bind fun l => (cX G c).map fun c => .mksl e i.size i.bytes z l c
    | _ => none
  | .slice T x lo hi mx => (cX G x).bind fun x => (cXo G lo).bind fun lo => (cXo G hi).bind fun hi => (cXo G mx).bind fun mx =>
    match P.underlying T with
    | some (.slice e) => (szOf P e).map fun n => .slS n x lo hi mx
    | some (.array k e) => (szOf P e).map fun n => .slA k n x lo hi mx
    | some .string => if mx.isNone then some (.slT x lo hi) else none
    | _ => none
  | .fieldAddr T x f =>
    match P.underlying T with
    | some (.struct fs) => (cX G x).bind fun x => (fs[f]?).bind fun f => (szOf P f.type).bind fun n => if n = 0 then none else some (.fa f.offset x)
    | _ => none
  | .field T x f =>
    match P.underlying T with
    | some (.struct fs) => (cX G x).bind fun x => (fs[f]?).bind fun f => (rdOf P f.type).map fun n => .fld f.offset n x
    | _ => none
  | .indexAddr T x i => (cX G x).bind fun x => (cX G i).bind fun i =>
    match P.underlying T with
    | some (.slice e) => (szOf P e).map fun n => .iaS n x i
    | some (.array k e) => (szOf P e).map fun n => .iaA k n x i
    | _ => none
  | .index T x i => (cX G x).bind fun x => (cX G i).bind fun i =>
    match P.underlying T with
    | some (.array k e) => (szOf P e).bind fun n => (rdOf P e).map fun r => .ix k n r x i
    | some .string => some (.ixT x i)
    | _ => none
  | .extract x i => (cX G x).map fun x => .ext x i
  | .call { callee := .value f, args, .. } => (cX G f).bind fun f => (cXs G args.toList).map fun a => .call f a
  | .call { callee := .builtin b, args, argTypes } => cBuiltin P G b argTypes args.toList
  | _ => none

def cGuard (ops : Array Oper) : Option (Nat × Bool) → Option (Option (Nat × Bool))
  | none => some none
  | some (j, b) => ((ops[j]?).bind (·.dst)).map fun d => some (d, b)
def cOper (P : Program) (G : Nat → Option Nat) (ops : Array Oper) (o : Oper) : IOper :=
  match cGuard ops o.guard with
  | some g => ⟨o.dst, (cOp P G o.op).getD .bad, g⟩
  | none => ⟨none, .bad, none⟩
/-- The edges that bind in each reading of the order. -/
def bound (o : Oper) : List Edge := o.after.toList.filter (Region.binds .any)
/-- Of each operation, as bits, those that it comes behind. -/
def ancs : List Oper → List Nat → List Nat
  | [], acc => acc
  | o :: r, acc => ancs r (acc ++ [(bound o).foldr (fun e s => 2 ^ e.on ||| (acc[e.on]?).getD 0 ||| s) 0])
/-- What a region that draws its order must be like: what is not ordered does not depend on the order. -/
def drawOk (P : Program) (G : Nat → Option Nat) (ops : Array Oper) : Bool :=
  let l := ops.toList
  let A := ancs l []
  let I := l.map (cOper P G ops)
  P.follows .mixedOrders && (l.zipIdx.all fun (o, i) => (bound o).all fun e => decide (e.on < i)) &&
  I.zipIdx.all fun (y, j) => I.zipIdx.all fun (x, i) => decide (j ≤ i) || ((A[j]?).getD 0).testBit i || x.indep y
def comp (P : Program) (G : Nat → Option Nat) : Code → IC
  | .skip => .skip
  | .region _ ops draw => if draw && !drawOk P G ops then .bad else .ops (ops.toList.map (cOper P G ops))
  | .seq a b => .seq (comp P G a) (comp P G b)
  | .cond c a b => match cX G c with
    | some c => .cond c (comp P G a) (comp P G b)
    | none => .bad
  | .block id b => .block id (comp P G b)
  | .loop b => .loop (comp P G b)
  | .rangeFunc f ps assign body => match cX G f with
    | some f => .rangeF f ps.toList (comp P G assign) (comp P G body)
    | none => .bad
  | .exit id => .exit id
  | .ret => .ret
  | .label _ => .skip
  | _ => .bad
def cRes (P : Program) : List ResultVar → Option (List (Nat × Option (Option Nat)))
  | [] => some []
  | .tmp t :: r => (cRes P r).map ((t, none) :: ·)
  | .cell a T :: r => (rdOf P T).bind fun n => (cRes P r).map ((a, some n) :: ·)
def compF (P : Program) (G : Nat → Option Nat) (f : Func) : Option IFn :=
  f.body.bind fun b => (cRes P f.results.toList).map fun r => ⟨f.ntmps, comp P G b, r⟩

end Go.Proofs.Ytnepeleepmhdaaa.AM
