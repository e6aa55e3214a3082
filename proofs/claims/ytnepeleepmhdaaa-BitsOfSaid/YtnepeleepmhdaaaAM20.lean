/- AM, twentieth text: operations, told one after the other by rewriting. -/
import Derived.Test.YtnepeleepmhdaaaAM19
set_option linter.unusedVariables false
set_option linter.unusedSimpArgs false
namespace Go.Proofs.Ytnepeleepmhdaaa.AM
open Go

def isV : Option (AN × Heap) → Bool
  | some (.v _, _) => true
  | _ => false
def outV : Option (AN × Heap) → V
  | some (.v x, _) => x
  | _ => .undef
def outH : Option (AN × Heap) → Heap
  | some (_, H) => H
  | _ => []
theorem isV_v (x : V) (H : Heap) : isV (some (.v x, H)) = true := by simp [isV]
theorem outV_v (x : V) (H : Heap) : outV (some (.v x, H)) = x := rfl
theorem outH_v (x : V) (H : Heap) : outH (some (.v x, H)) = H := rfl

section
variable {F : FuncId → Option Fun} {n : Nat} {ρ : Env} {H : Heap} {r : List IOper} {Q : List V → Heap → Prop}
theorem WO_val {d : Option Nat} {op : IOp} {t : List V} (h : isV (aop (X.ev t) op H) = true) : WO F (⟨d, op, none⟩ :: r) t H Q = WO F r (putT t d (outV (aop (X.ev t) op H))) (outH (aop (X.ev t) op H)) Q := by
  have key : ∃ x H', aop (X.ev t) op H = some (.v x, H') := by
    unfold isV at h
    split at h
    · exact ⟨_, _, by assumption⟩
    · cases h
  obtain ⟨x, H', e⟩ := key
  rw [e]
  simp only [outV_v, outH_v]
  apply propext
  constructor
  · rintro ⟨k, t', H2, h1, h2⟩
    exact ⟨k, t', H2, by simpa only [opsR, wanted, if_true, e, Option.bind_some] using h1, h2⟩
  · intro h
    exact WO_cons _ e h
theorem WO_mv {d : Nat} {x : X} : WO F (⟨some d, .mv x, none⟩ :: r) (L n ρ) H Q = WO F r (L n (ρ.up d (x.ev (L n ρ)))) H Q := by
  rw [WO_val (by rfl)]; simp only [aop, outV_v, outH_v, putT, L_set]
/-- A guard whose flag is known. -/
theorem WO_yes {d : Option Nat} {op : IOp} {t : List V} {j : Nat} {b : Bool} (h : wanted t (some (j, b)) = true) : WO F (⟨d, op, some (j, b)⟩ :: r) t H Q = WO F (⟨d, op, none⟩ :: r) t H Q := by
  have h0 : wanted t none = true := rfl
  unfold WO
  simp only [opsR, h, h0, if_true]
theorem WO_no {d : Option Nat} {op : IOp} {t : List V} {j : Nat} {b : Bool} (h : wanted t (some (j, b)) = false) : WO F (⟨d, op, some (j, b)⟩ :: r) t H Q = WO F r (putT t d .undef) H Q := by
  unfold WO
  simp only [opsR, h, Bool.false_eq_true, if_false]
/-- Is a flag as it is wanted? -/
def flag : V → Bool → Bool
  | .c (.bool c), b => c == b
  | _, _ => false
theorem wanted_L {j : Nat} {b : Bool} (h : j < n) : wanted (L n ρ) (some (j, b)) = flag (ρ j) b := by
  simp only [wanted, L_get n ρ h, flag]
  cases ρ j with
  | c x => cases x <;> rfl
  | _ => rfl
theorem flag_bool (c b : Bool) : flag (.c (.bool c)) b = (c == b) := by simp [flag]
theorem WO_id {l : List IOper} {t : List V} (h : WO F l t H Q) : WO F l t H Q := h
theorem WO_nil_iff {t : List V} : WO F [] t H Q = Q t H := by
  apply propext
  constructor
  · rintro ⟨k, t', H', h, hq⟩; simp [opsR] at h; obtain ⟨rfl, rfl⟩ := h; exact hq
  · exact WO_nil
theorem WO_call {d : Option Nat} {f : X} {args : List X} {g : FuncId} {fs cs : List Ad} {t : List V} (hf : f.ev t = .c (.fn g fs cs)) (h : WC F g (fs.map pV ++ args.map (X.ev t) ++ cs.map pV) H fun v H' => WO F r (putT t d v) H' Q) :
    WO F (⟨d, .call f args, none⟩ :: r) t H Q := WO_cons (.call g _, H) (by simp only [aop, hf]) h
theorem WO_yld {d : Option Nat} {f : X} {args : List X} {l : Nat} {t : List V} (hf : f.ev t = .c (.yld l)) (h : WR F l (args.map (X.ev t)) H fun v H' => WO F r (putT t d v) H' Q) :
    WO F (⟨d, .call f args, none⟩ :: r) t H Q := WO_cons (.yld l _, H) (by simp only [aop, hf]) h
end

/-! ### Each operation -/
section
variable {ρ : X → V} {H : Heap}
theorem putT_some (n : Nat) (ρ : Env) (d : Nat) (v : V) : putT (L n ρ) (some d) v = L n (ρ.up d v) := L_set n ρ d v
theorem putT_none (t : List V) (v : V) : putT t none v = t := rfl
/-- A value, memory as it was. -/
def outO (o : Option V) (H : Heap) : Option (AN × Heap) := o.map fun v => (.v v, H)
theorem isV_outO (v : V) (H : Heap) : isV (outO (some v) H) = true := by simp [isV, outO]
theorem outV_outO (v : V) (H : Heap) : outV (outO (some v) H) = v := rfl
theorem outH_outO (v : V) (H : Heap) : outH (outO (some v) H) = H := rfl
theorem bind_map {α β γ : Type} (o : Option α) (f : α → Option β) (g : β → γ) : (o.bind fun a => (f a).map g) = (o.bind f).map g := by cases o <;> rfl
def pickO : V → V → V → Option V
  | .c (.bool t), a, b => some (if t then a else b)
  | _, _, _ => none
theorem pickO_true (a b : V) : pickO (.c (.bool true)) a b = some a := rfl
theorem pickO_false (a b : V) : pickO (.c (.bool false)) a b = some b := rfl
def binO (op : BinOp) : V → V → Option V
  | .c x, .c y => (binC op x y).map .c
  | _, _ => none
theorem binO_c (op : BinOp) (x y : Cell) : binO op (.c x) (.c y) = (binC op x y).map .c := rfl
def eqO (k : EK) (neg : Bool) : V → V → Option V
  | .c x, .c y => (eqC k x y).map fun b => .c (.bool (b != neg))
  | _, _ => none
theorem eqO_c (k : EK) (neg : Bool) (x y : Cell) : eqO k neg (.c x) (.c y) = (eqC k x y).map fun b => .c (.bool (b != neg)) := rfl
def eqaO (L : List KK) (neg : Bool) : V → V → Option V
  | .agg x, .agg y => if x.length = L.length ∧ y.length = L.length then (eqCs L x y).map fun b => .c (.bool (b != neg)) else none
  | _, _ => none
theorem eqaO_agg (L : List KK) (neg : Bool) (x y : List Cell) : eqaO L neg (.agg x) (.agg y) = if x.length = L.length ∧ y.length = L.length then (eqCs L x y).map fun b => .c (.bool (b != neg)) else none := rfl
def unO (op : UnOp) : V → Option V
  | .c x => (unC op x).map .c
  | _ => none
theorem unO_c (op : UnOp) (x : Cell) : unO op (.c x) = (unC op x).map .c := rfl
def cvO (k : IntKind) : V → Option V
  | .c (.int _ n) => some (.c (.int k (k.wrap n)))
  | _ => none
theorem cvO_int (k k' : IntKind) (n : Int) : cvO k (.c (.int k' n)) = some (.c (.int k (k.wrap n))) := rfl
def nilckO : V → Option V
  | .c (.ptr (some a)) => some (.c (.ptr (some a)))
  | .c (.fn f g h) => some (.c (.fn f g h))
  | _ => none
theorem nilckO_ptr (a : Ad) : nilckO (.c (.ptr (some a))) = some (.c (.ptr (some a))) := rfl
theorem nilckO_fn (f : FuncId) (g h : List Ad) : nilckO (.c (.fn f g h)) = some (.c (.fn f g h)) := rfl
def ldO (H : Heap) (n : Option Nat) (v : V) : Option V := (adOf v).bind fun a => H.rd a n
theorem ldO_one (H : Heap) (a : Ad) : ldO H none (.c (.ptr (some a))) = (H.ld a).map .c := rfl
theorem ldO_row (H : Heap) (a : Ad) (n : Nat) : ldO H (some n) (.c (.ptr (some a))) = (H.ldn a n).map .agg := rfl
def stO (H : Heap) (n : Nat) (a v : V) : Option Heap := (adOf a).bind fun a => v.cells.bind fun cs => if cs.length = n then H.st a cs else none
theorem stO_one (H : Heap) (a : Ad) (c : Cell) : stO H 1 (.c (.ptr (some a))) (.c c) = H.st a [c] := rfl
theorem stO_row (H : Heap) (a : Ad) (n : Nat) (cs : List Cell) (h : cs.length = n) : stO H n (.c (.ptr (some a))) (.agg cs) = H.st a cs := by simp [stO, adOf, V.cells, h]
/-- Nothing, in memory changed so. -/
def outS (o : Option Heap) : Option (AN × Heap) := o.map fun H => (.v .undef, H)
theorem isV_outS (H : Heap) : isV (outS (some H)) = true := by simp [isV, outS]
theorem outV_outS (H : Heap) : outV (outS (some H)) = .undef := rfl
theorem outH_outS (H : Heap) : outH (outS (some H)) = H := rfl
def oa (a : Option Ad) : Ad := a.getD (0, 0)
theorem oa_some (a : Ad) : oa (some a) = a := rfl
/-- A slice that has elements lies somewhere. -/
def okA (a : Option Ad) (n : Nat) : Prop := a = none → n = 0
theorem okA_some (a : Ad) (n : Nat) : okA (some a) n = True := by simp [okA]
def iaSO (sz : Nat) : V → V → Option V
  | .c (.sl (some a) n _ _), i => (asI i).bind fun i => if 0 ≤ i ∧ i < n then some (.c (.ptr (some (addA a (i.toNat * sz))))) else none
  | _, _ => none
theorem iaSO_sl {sz : Nat} {a : Option Ad} {n c : Nat} {o : Bool} {k : IntKind} {j : Int} (h : okA a n) (h0 : 0 ≤ j) (h1 : j < n) : iaSO sz (.c (.sl a n c o)) (.c (.int k j)) = some (.c (.ptr (some (addA (oa a) (j.toNat * sz))))) := by
  cases a with
  | none => have := h rfl; omega
  | some a => simp [iaSO, asI, h0, h1, oa]
def iaAO (len sz : Nat) (x i : V) : Option V := (adOf x).bind fun a => (asI i).bind fun i => if 0 ≤ i ∧ i < len then some (.c (.ptr (some (addA a (i.toNat * sz))))) else none
theorem iaAO_ptr {len sz : Nat} {a : Ad} {k : IntKind} {j : Int} (h0 : 0 ≤ j) (h1 : j < len) : iaAO len sz (.c (.ptr (some a))) (.c (.int k j)) = some (.c (.ptr (some (addA a (j.toNat * sz))))) := by
  simp [iaAO, adOf, asI, h0, h1]
def faO (off : Nat) (x : V) : Option V := (adOf x).map fun a => .c (.ptr (some (addA a off)))
theorem faO_ptr (off : Nat) (a : Ad) : faO off (.c (.ptr (some a))) = some (.c (.ptr (some (addA a off)))) := rfl
def fldO (off : Nat) (n : Option Nat) : V → Option V
  | .agg cs => prd cs off n
  | _ => none
theorem fldO_agg (off : Nat) (n : Option Nat) (cs : List Cell) : fldO off n (.agg cs) = prd cs off n := rfl
def ixO (len sz : Nat) (n : Option Nat) : V → V → Option V
  | .agg cs, i => (asI i).bind fun i => if 0 ≤ i ∧ i < len then prd cs (i.toNat * sz) n else none
  | _, _ => none
theorem ixO_agg {len sz : Nat} {n : Option Nat} {cs : List Cell} {k : IntKind} {j : Int} (h0 : 0 ≤ j) (h1 : j < len) : ixO len sz n (.agg cs) (.c (.int k j)) = prd cs (j.toNat * sz) n := by simp [ixO, asI, h0, h1]
def extO : V → Nat → Option V
  | .tup l, i => (l[i]?).map Pc.v
  | _, _ => none
theorem extO_tup (l : List Pc) (i : Nat) : extO (.tup l) i = (l[i]?).map Pc.v := rfl
def lenO : Bool → V → Option V
  | true, .c (.str s) => some (.c (.int .i64 s.size))
  | false, .c (.sl _ n _ _) => some (.c (.int .i64 n))
  | _, _ => none
theorem lenO_sl (a : Option Ad) (n c : Nat) (o : Bool) : lenO false (.c (.sl a n c o)) = some (.c (.int .i64 n)) := rfl
theorem lenO_str (s : ByteArray) : lenO true (.c (.str s)) = some (.c (.int .i64 s.size)) := rfl

section
variable {ρ : X → V} {H : Heap}
theorem aop_mv (x : X) : aop ρ (.mv x) H = some (.v (ρ x), H) := rfl
theorem aop_pick (c a b : X) : aop ρ (.pick c a b) H = outO (pickO (ρ c) (ρ a) (ρ b)) H := by
  simp only [aop, outO]; cases ρ c with
  | c x => cases x <;> rfl
  | _ => rfl
theorem aop_bin (op : BinOp) (x y : X) : aop ρ (.bin op x y) H = outO (binO op (ρ x) (ρ y)) H := by
  simp only [aop, outO]; cases ρ x <;> cases ρ y <;> simp [binO, Function.comp_def]
theorem aop_eq (k : EK) (neg : Bool) (x y : X) : aop ρ (.eq k neg x y) H = outO (eqO k neg (ρ x) (ρ y)) H := by
  simp only [aop, outO]; cases ρ x <;> cases ρ y <;> simp [eqO, Function.comp_def]
theorem aop_eqagg (L : List KK) (neg : Bool) (x y : X) : aop ρ (.eqagg L neg x y) H = outO (eqaO L neg (ρ x) (ρ y)) H := by
  simp only [aop, outO]; cases ρ x <;> cases ρ y <;> simp [eqaO, Function.comp_def]; split <;> simp [Function.comp_def]
theorem aop_un (op : UnOp) (x : X) : aop ρ (.un op x) H = outO (unO op (ρ x)) H := by
  simp only [aop, outO]; cases ρ x <;> simp [unO, Function.comp_def]
theorem aop_cv (k : IntKind) (x : X) : aop ρ (.cv k x) H = outO (cvO k (ρ x)) H := by
  simp only [aop, outO]; cases ρ x with
  | c x => cases x <;> rfl
  | _ => rfl
theorem aop_nilck (x : X) : aop ρ (.nilck x) H = outO (nilckO (ρ x)) H := by
  simp only [aop, outO]; cases ρ x with
  | c x => cases x with
    | ptr a => cases a <;> rfl
    | _ => rfl
  | _ => rfl
theorem aop_ld (n : Option Nat) (x : X) : aop ρ (.ld n x) H = outO (ldO H n (ρ x)) H := by
  simp only [aop, outO, ldO]; cases adOf (ρ x) <;> simp
theorem aop_st (n : Nat) (a x : X) : aop ρ (.st n a x) H = outS (stO H n (ρ a) (ρ x)) := by
  simp only [aop, outS, stO]
  cases adOf (ρ a) with
  | none => rfl
  | some a =>
    cases (ρ x).cells with
    | none => rfl
    | some cs => simp only [Option.bind_some]; split <;> rfl
theorem aop_iaS (sz : Nat) (x i : X) : aop ρ (.iaS sz x i) H = outO (iaSO sz (ρ x) (ρ i)) H := by
  simp only [aop, outO]
  cases ρ x with
  | c x => cases x with
    | sl a n c o => cases a with
      | none => rfl
      | some a =>
        simp only [iaSO]
        cases asI (ρ i) with
        | none => rfl
        | some j => simp only [Option.bind_some]; split <;> rfl
    | _ => rfl
  | _ => rfl
theorem aop_iaA (len sz : Nat) (x i : X) : aop ρ (.iaA len sz x i) H = outO (iaAO len sz (ρ x) (ρ i)) H := by
  simp only [aop, outO, iaAO]
  cases adOf (ρ x) with
  | none => rfl
  | some a =>
    cases asI (ρ i) with
    | none => rfl
    | some j => simp only [Option.bind_some]; split <;> rfl
theorem aop_fa (off : Nat) (x : X) : aop ρ (.fa off x) H = outO (faO off (ρ x)) H := by
  simp only [aop, outO, faO]; cases adOf (ρ x) <;> rfl
theorem aop_fld (off : Nat) (n : Option Nat) (x : X) : aop ρ (.fld off n x) H = outO (fldO off n (ρ x)) H := by
  simp only [aop, outO]; cases ρ x <;> simp [fldO]
theorem aop_ix (len sz : Nat) (n : Option Nat) (x i : X) : aop ρ (.ix len sz n x i) H = outO (ixO len sz n (ρ x) (ρ i)) H := by
  simp only [aop, outO]
  cases ρ x with
  | agg cs =>
    simp only [ixO]
    cases asI (ρ i) with
    | none => rfl
    | some j => simp only [Option.bind_some]; split <;> rfl
  | _ => rfl
theorem aop_ext (x : X) (i : Nat) : aop ρ (.ext x i) H = outO (extO (ρ x) i) H := by
  simp only [aop, outO]; cases ρ x <;> simp [extO, Function.comp_def]
theorem aop_len (b : Bool) (x : X) : aop ρ (.len b x) H = outO (lenO b (ρ x)) H := by
  simp only [aop, outO]
  cases b <;> cases ρ x with
  | c x => cases x <;> rfl
  | _ => rfl
theorem aop_lenK (n : Nat) : aop ρ (.lenK n) H = some (.v (.c (.int .i64 n)), H) := rfl
theorem aop_box (T : TypeId) (x : X) : aop ρ (.box T x) H = (ρ x).cells.map fun cs => (.v (.c (.ptr (some (H.length, 0)))), H ++ [.cells cs false none]) := rfl
theorem aop_new (T : TypeId) (z : V) : aop ρ (.new T z) H = z.cells.map fun cs => (.v (.c (.ptr (some (H.length, 0)))), H ++ [.cells cs false none]) := rfl
theorem aop_build (z : List Cell) (ps : List (Nat × Nat × X)) : aop ρ (.build z ps) H = outO ((fillB z (ps.map fun p => (p.1, p.2.1, ρ p.2.2))).map .agg) H := by
  simp only [aop, outO, Option.map_map, Function.comp_def]
theorem aop_bsl (T : TypeId) (len : Nat) (z : List Cell) (ps : List (Nat × Nat × X)) : aop ρ (.bsl T len z ps) H = (fillB z (ps.map fun p => (p.1, p.2.1, ρ p.2.2))).map fun cs => (.v (.c (.sl (some (H.length, 0)) len len false)), H ++ [.cells cs false none]) := rfl
theorem aop_mkfn (f : FuncId) (first caps : List X) : aop ρ (.mkfn f first caps) H = (adsOf (first.map ρ)).bind fun fs => (adsOf (caps.map ρ)).map fun cs => (.v (.c (.fn f fs cs)), H) := rfl
end
theorem V.cells_c (c : Cell) : (V.c c).cells = some [c] := rfl
theorem V.cells_agg (l : List Cell) : (V.agg l).cells = some l := rfl
theorem fillB_nil (cs : List Cell) : fillB cs [] = some cs := rfl
end

theorem lss_int (k : IntKind) (x y : Int) : binC .lss (.int k x) (.int k y) = some (.bool (decide (x < y))) := by simp [binC, binI]
theorem leq_int (k : IntKind) (x y : Int) : binC .leq (.int k x) (.int k y) = some (.bool (decide (x ≤ y))) := by simp [binC, binI]
theorem gtr_int (k : IntKind) (x y : Int) : binC .gtr (.int k x) (.int k y) = some (.bool (decide (y < x))) := by simp [binC, binI]
theorem geq_int (k : IntKind) (x y : Int) : binC .geq (.int k x) (.int k y) = some (.bool (decide (y ≤ x))) := by simp [binC, binI]
theorem eql_int (k : IntKind) (x y : Int) : binC .eql (.int k x) (.int k y) = some (.bool (x == y)) := by simp [binC, binI]
theorem neq_int (k : IntKind) (x y : Int) : binC .neq (.int k x) (.int k y) = some (.bool (x != y)) := by simp [binC, binI]
theorem add_int (k : IntKind) (x y : Int) : binC .add (.int k x) (.int k y) = some (.int k (k.wrap (x + y))) := by simp [binC, binI]
theorem sub_int (k : IntKind) (x y : Int) : binC .sub (.int k x) (.int k y) = some (.int k (k.wrap (x - y))) := by simp [binC, binI]
theorem mul_int (k : IntKind) (x y : Int) : binC .mul (.int k x) (.int k y) = some (.int k (k.wrap (x * y))) := by simp [binC, binI]
theorem quo_int (k : IntKind) {x y : Int} (h : y ≠ 0) : binC .quo (.int k x) (.int k y) = some (.int k (k.wrap (x.tdiv y))) := by simp [binC, binI, h]
theorem rem_int (k : IntKind) {x y : Int} (h : y ≠ 0) : binC .rem (.int k x) (.int k y) = some (.int k (x.tmod y)) := by simp [binC, binI, h]
theorem and_int (k : IntKind) (x y : Int) : binC .and (.int k x) (.int k y) = some (.int k (bits .and k x y)) := by simp [binC, binI]
theorem or_int (k : IntKind) (x y : Int) : binC .or (.int k x) (.int k y) = some (.int k (bits .or k x y)) := by simp [binC, binI]
theorem xor_int (k : IntKind) (x y : Int) : binC .xor (.int k x) (.int k y) = some (.int k (bits .xor k x y)) := by simp [binC, binI]
theorem andNot_int (k : IntKind) (x y : Int) : binC .andNot (.int k x) (.int k y) = some (.int k (bits .andNot k x y)) := by simp [binC, binI]
theorem shl_int (k k' : IntKind) {x y : Int} (h : 0 ≤ y) : binC .shl (.int k x) (.int k' y) = some (.int k (k.wrap (x * 2 ^ (min y.toNat k.bits)))) := by
  have : ¬ y < 0 := by omega
  simp [binC, binI, this]
theorem shr_int (k k' : IntKind) {x y : Int} (h : 0 ≤ y) : binC .shr (.int k x) (.int k' y) = some (.int k (x.fdiv (2 ^ (min y.toNat k.bits)))) := by
  have : ¬ y < 0 := by omega
  simp [binC, binI, this]

/-! ### Memory -/
/-- A slice reads as these cells: `sz` cells an element. -/
structure Sl (H : Heap) (sz : Nat) (a : Option Ad) (n : Nat) (xs : List Cell) : Prop where
  len : xs.length = n * sz
  nil : okA a n
  rd : ∀ a', a = some a' → H.ldn a' (n * sz) = some xs
theorem sub_at {cs xs : List Cell} {o n : Nat} (h : sub cs o n = some xs) {i : Nat} (hi : i < n) : cs[o + i]? = xs[i]? := by
  unfold sub at h
  split at h
  · cases h
    simp [List.getElem?_take, hi, List.getElem?_drop]
  · cases h
theorem ldn_get {H : Heap} {a : Ad} {n : Nat} {xs : List Cell} (h : H.ldn a n = some xs) {i : Nat} (hi : i < n) : H.ld (addA a i) = xs[i]? := by
  unfold Heap.ldn at h
  obtain ⟨cs, hc, hs⟩ := Option.bind_eq_some_iff.1 h
  unfold Heap.ld addA
  rw [hc]
  exact sub_at hs hi
theorem Sl.get {H : Heap} {a : Option Ad} {n : Nat} {xs : List Cell} (h : Sl H 1 a n xs) {i : Nat} (hi : i < n) : H.ld (addA (oa a) i) = xs[i]? := by
  cases a with
  | none => have := h.nil rfl; omega
  | some a => exact ldn_get (h.rd a rfl) (by omega)
end Go.Proofs.Ytnepeleepmhdaaa.AM
