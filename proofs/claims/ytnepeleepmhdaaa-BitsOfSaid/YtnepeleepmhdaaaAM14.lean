/- AM, fourteenth text: what an operation of the abstract machine comes to, the machine's comes to: every operation. -/
import Derived.Test.YtnepeleepmhdaaaAM13
set_option linter.unusedVariables false
set_option linter.unusedSimpArgs false
namespace Go.Proofs.Ytnepeleepmhdaaa.AM
open Go Go.RowKit

section
variable {K : Ctx} {m : Inj} {base : Nat} {H : Heap} {w : World} {ρ : X → V} {ρc : Operand → Value} {r : AN × Heap}

theorem good_binOp (hR : Rel K m base H w) (hρ : Ops K m H.length ρ ρc) {op : BinOp} {T T' : TypeId} {x y : Operand} {io : IOp} (hc : cOp K.P K.G (.binOp op T x y T') = some io) (h : aop ρ io H = some r) :
    Good K base m H w ((do pure (Next.value (← (do eqGuard op T x y (ρc x) (ρc y); binOp op T (ρc x) (ρc y)))) : Sem Next).run K.P w) r := by
  simp only [cOp] at hc
  obtain ⟨x', hx, hc⟩ := bind_some hc
  obtain ⟨y', hy, hc⟩ := bind_some hc
  by_cases hop : op = .eql ∨ op = .neq
  · have hc' : (match K.P.underlying T with
      | some (.int _) | some .string => some (IOp.bin op x' y')
      | some .bool => some (.eq .bool (op == .neq) x' y')
      | some (.pointer _) => some (.eq .ptr (op == .neq) x' y')
      | some (.slice _) => some (.eq .sl (op == .neq) x' y')
      | some (.map ..) => some (.eq .map (op == .neq) x' y')
      | some (.func ..) => some (.eq .fn (op == .neq) x' y')
      | some (.struct _) | some (.array ..) => if K.P.eqGuardType K.P.depth T then none else (leaves K.P 100 T).map fun L => .eqagg L (op == .neq) x' y'
      | _ => none) = some io := by
      rcases hop with rfl | rfl <;> exact hc
    cases hu : K.P.underlying T with
    | none => simp [hu] at hc'
    | some d =>
      rw [hu] at hc'
      cases d with
      | int k => cases hc'; exact good_bin hR hρ hx hy h
      | string => cases hc'; exact good_bin hR hρ hx hy h
      | bool => cases hc'; exact good_eq (k := .bool) hR hρ hop hu rfl hx hy h
      | pointer e => cases hc'; exact good_eq (k := .ptr) hR hρ hop hu ⟨_, rfl⟩ hx hy h
      | slice e => cases hc'; exact good_eq (k := .sl) hR hρ hop hu ⟨_, rfl⟩ hx hy h
      | map a b => cases hc'; exact good_eq (k := .map) hR hρ hop hu ⟨_, _, rfl⟩ hx hy h
      | func a b c => cases hc'; exact good_eq (k := .fn) hR hρ hop hu ⟨_, _, _, rfl⟩ hx hy h
      | struct fs =>
        simp only [] at hc'
        split at hc'
        · cases hc'
        · rename_i hg
          obtain ⟨L, hL, rfl⟩ := map_some' hc'
          exact good_eqagg hR hρ hop hu (.inl ⟨_, rfl⟩) (by simpa using hg) hL hx hy h
      | array n e =>
        simp only [] at hc'
        split at hc'
        · cases hc'
        · rename_i hg
          obtain ⟨L, hL, rfl⟩ := map_some' hc'
          exact good_eqagg hR hρ hop hu (.inr ⟨_, _, rfl⟩) (by simpa using hg) hL hx hy h
      | _ => simp at hc'
  · have h1 : op ≠ .eql := fun e => hop (.inl e)
    have h2 : op ≠ .neq := fun e => hop (.inr e)
    have : io = .bin op x' y' := by
      cases op <;> first | exact absurd rfl h1 | exact absurd rfl h2 | (cases hc; rfl)
    subst this
    exact good_bin hR hρ hx hy h

theorem good_op (hR : Rel K m base H w) (hρ : Ops K m H.length ρ ρc) {o : Oper} {io : IOp} (hc : cOp K.P K.G o.op = some io) (h : aop ρ io H = some r) :
    Good K base m H w ((execOp ρc o).run K.P w) r := by
  obtain ⟨dst, op, type, pos, after, guard⟩ := o
  simp only [] at hc
  have E : ∀ {X : Sem Next}, execOp ρc ⟨dst, op, type, pos, after, guard⟩ = X → Good K base m H w (X.run K.P w) r → Good K base m H w ((execOp ρc ⟨dst, op, type, pos, after, guard⟩).run K.P w) r := by
    intro X e hX; rw [e]; exact hX
  cases op with
  | move x => obtain ⟨x', hx, rfl⟩ := map_some' hc; exact good_mv hR hρ hx h
  | assign x => obtain ⟨x', hx, rfl⟩ := map_some' hc; exact good_mv hR hρ hx h
  | pick c a b =>
    simp only [cOp] at hc
    obtain ⟨c', hc1, hc⟩ := bind_some hc
    obtain ⟨a', ha, hc⟩ := bind_some hc
    obtain ⟨b', hb, rfl⟩ := map_some' hc
    exact good_pick hR hρ hc1 ha hb h
  | alloc T => obtain ⟨z, hz, rfl⟩ := map_some' hc; exact good_new hR hz h
  | box T x => obtain ⟨x', hx, rfl⟩ := map_some' hc; exact good_box hR hρ hx h
  | build T ps =>
    simp only [cOp] at hc
    split at hc
    · rename_i fs hu
      split at hc
      · rename_i hfs
        obtain ⟨z, hz, hc⟩ := bind_some hc
        obtain ⟨zc, hzc, hc⟩ := bind_some hc
        obtain ⟨qs, hq, rfl⟩ := map_some' hc
        exact good_build_struct hR hρ hu hfs hz hzc hq h
      · cases hc
    · rename_i k e hu
      obtain ⟨z, hz, hc⟩ := bind_some hc
      obtain ⟨zc, hzc, hc⟩ := bind_some hc
      obtain ⟨n, hn, hc⟩ := bind_some hc
      obtain ⟨qs, hq, rfl⟩ := map_some' hc
      exact good_build_array hR hρ hu hn hz hzc hq h
    · cases hc
  | buildSlice T len ps =>
    simp only [cOp] at hc
    split at hc
    · rename_i e hu
      obtain ⟨z, hz, hc⟩ := bind_some hc
      obtain ⟨zc, hzc, hc⟩ := bind_some hc
      obtain ⟨n, hn, hc⟩ := bind_some hc
      split at hc
      · rename_i hl
        obtain ⟨qs, hq, rfl⟩ := map_some' hc
        exact good_bsl hR hρ hu hn hz hzc hl hq h
      · cases hc
    · cases hc
  | load T a =>
    simp only [cOp] at hc
    obtain ⟨a', ha, hc⟩ := bind_some hc
    obtain ⟨n, hn, rfl⟩ := map_some' hc
    exact good_ld hR hρ ha hn h
  | store T a x =>
    simp only [cOp] at hc
    obtain ⟨a', ha, hc⟩ := bind_some hc
    obtain ⟨x', hx, hc⟩ := bind_some hc
    obtain ⟨n, hn, rfl⟩ := map_some' hc
    exact good_st hR hρ ha hx hn h
  | nilCheck x => obtain ⟨x', hx, rfl⟩ := map_some' hc; exact good_nilck hR hρ hx h rfl
  | binOp op T x y T' => exact good_binOp hR hρ hc h
  | unOp op T x => obtain ⟨x', hx, rfl⟩ := map_some' hc; exact good_un hR hρ hx h
  | convert s d x =>
    simp only [cOp] at hc
    obtain ⟨x', hx, hc⟩ := bind_some hc
    split at hc
    · rename_i k k' hs hd
      cases hc
      exact good_cv hR hρ hs hd hx h
    · rename_i e hs hd
      split at hc
      · rename_i he
        cases hc
        exact good_b2s hR hρ hs hd he hx h
      · cases hc
    · split at hc <;> cases hc
    · cases hc
  | makeFunc fn first caps =>
    cases fn with
    | func f =>
      simp only [cOp] at hc
      obtain ⟨a, ha, hc⟩ := bind_some hc
      obtain ⟨b, hb, rfl⟩ := map_some' hc
      exact good_mkfn hR hρ ha hb h
    | _ => simp [cOp] at hc
  | makeMap T res =>
    cases res with
    | none => cases hc; exact good_mkmap hR hρ (x := none) (.inl ⟨rfl, rfl⟩) h
    | some x =>
      simp only [cOp] at hc
      split at hc
      · rename_i a b hu
        obtain ⟨x', hx, rfl⟩ := map_some' hc
        exact good_mkmap hR hρ (x := some x) (.inr ⟨⟨a, b, hu⟩, x, x', rfl, rfl, hx⟩) h
      · cases hc
  | insert T a k v =>
    simp only [cOp] at hc
    split at hc
    · rename_i kt e hu
      obtain ⟨kk, hkk, hc⟩ := bind_some hc
      obtain ⟨a', ha, hc⟩ := bind_some hc
      obtain ⟨k', hk, hc⟩ := bind_some hc
      obtain ⟨v', hv, rfl⟩ := map_some' hc
      exact good_ins hR hρ hu hkk ha hk hv h
    · cases hc
  | mapUpdate T a k v =>
    simp only [cOp] at hc
    split at hc
    · rename_i kt e hu
      obtain ⟨kk, hkk, hc⟩ := bind_some hc
      obtain ⟨a', ha, hc⟩ := bind_some hc
      obtain ⟨k', hk, hc⟩ := bind_some hc
      obtain ⟨v', hv, rfl⟩ := map_some' hc
      exact good_ins hR hρ hu hkk ha hk hv h
    · cases hc
  | lookup T a k ok =>
    simp only [cOp] at hc
    split at hc
    · rename_i kt e hu
      obtain ⟨kk, hkk, hc⟩ := bind_some hc
      obtain ⟨z, hz, hc⟩ := bind_some hc
      obtain ⟨a', ha, hc⟩ := bind_some hc
      obtain ⟨k', hk, rfl⟩ := map_some' hc
      exact good_look hR hρ hu hkk hz ha hk h
    · cases hc
  | makeSlice T l c =>
    simp only [cOp] at hc
    split at hc
    · rename_i e hu
      obtain ⟨z, hz, hc⟩ := bind_some hc
      obtain ⟨zc, hzc, hc⟩ := bind_some hc
      obtain ⟨i, hi, hc⟩ := bind_some hc
      obtain ⟨l', hl, hc⟩ := bind_some hc
      obtain ⟨c', hc', rfl⟩ := map_some' hc
      exact good_mksl hR hρ hu hi hz hzc hl hc' h
    · cases hc
  | slice T x lo hi mx =>
    simp only [cOp] at hc
    obtain ⟨x', hx, hc⟩ := bind_some hc
    obtain ⟨lo', hlo, hc⟩ := bind_some hc
    obtain ⟨hi', hhi, hc⟩ := bind_some hc
    obtain ⟨mx', hmx, hc⟩ := bind_some hc
    split at hc
    · rename_i e hu
      obtain ⟨n, hn, rfl⟩ := map_some' hc
      exact good_slS hR hρ hu hn hx hlo hhi hmx h
    · rename_i k e hu
      obtain ⟨n, hn, rfl⟩ := map_some' hc
      exact good_slA hR hρ hu hn hx hlo hhi hmx h
    · rename_i hu
      split at hc
      · rename_i hm
        cases hc
        have : mx = none := by
          cases mx with
          | none => rfl
          | some a => obtain ⟨b, _, rfl⟩ := map_some' hmx; simp at hm
        subst this
        exact good_slT hR hρ hu hx hlo hhi h
      · cases hc
    · cases hc
  | fieldAddr T x f =>
    simp only [cOp] at hc
    split at hc
    · rename_i fs hu
      obtain ⟨x', hx, hc⟩ := bind_some hc
      obtain ⟨fl, hf, hc⟩ := bind_some hc
      obtain ⟨n, hn, hc⟩ := bind_some hc
      split at hc
      · cases hc
      · rename_i h0
        cases hc
        exact good_fa hR hρ hu hf hn h0 hx h
    · cases hc
  | field T x f =>
    simp only [cOp] at hc
    split at hc
    · rename_i fs hu
      obtain ⟨x', hx, hc⟩ := bind_some hc
      obtain ⟨fl, hf, hc⟩ := bind_some hc
      obtain ⟨n, hn, rfl⟩ := map_some' hc
      exact good_fld hR hρ hu hf hn hx h
    · cases hc
  | indexAddr T x i =>
    simp only [cOp] at hc
    obtain ⟨x', hx, hc⟩ := bind_some hc
    obtain ⟨i', hi, hc⟩ := bind_some hc
    split at hc
    · rename_i e hu
      obtain ⟨n, hn, rfl⟩ := map_some' hc
      exact good_iaS hR hρ hu hn hx hi h
    · rename_i k e hu
      obtain ⟨n, hn, rfl⟩ := map_some' hc
      exact good_iaA hR hρ hu hn hx hi h
    · cases hc
  | index T x i =>
    simp only [cOp] at hc
    obtain ⟨x', hx, hc⟩ := bind_some hc
    obtain ⟨i', hi, hc⟩ := bind_some hc
    split at hc
    · rename_i k e hu
      obtain ⟨n, hn, hc⟩ := bind_some hc
      obtain ⟨rd, hrd, rfl⟩ := map_some' hc
      exact good_ix hR hρ hu hn hrd hx hi h
    · rename_i hu
      cases hc
      exact good_ixT hR hρ hu hx hi h
    · cases hc
  | extract x i => obtain ⟨x', hx, rfl⟩ := map_some' hc; exact good_ext hR hρ hx h
  | call c =>
    obtain ⟨callee, args, argTypes⟩ := c
    cases callee with
    | value f =>
      simp only [cOp] at hc
      obtain ⟨f', hf, hc⟩ := bind_some hc
      obtain ⟨a', ha, rfl⟩ := map_some' hc
      exact good_call hR hρ hf ha h
    | builtin b =>
      simp only [cOp] at hc
      refine E (X := builtin b argTypes type (args.map fun | .const _ => true | _ => false) (args.map ρc)) ?_ (good_builtin hR hρ hc h)
      rfl
    | invoke x y => simp [cOp] at hc
  | _ => simp [cOp] at hc

end
end Go.Proofs.Ytnepeleepmhdaaa.AM
