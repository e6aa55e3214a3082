/- AM, tenth text: append as an operation, copy, clear, make, bytes to a string, maps, max and min. -/
import Derived.Test.YtnepeleepmhdaaaAM9
import Derived.Laws.BitsLemmas
set_option linter.unusedVariables false
set_option linter.unusedSimpArgs false
namespace Go.Proofs.Ytnepeleepmhdaaa.AM
open Go Go.RowKit

section
variable {K : Ctx} {m : Inj} {base : Nat} {H : Heap} {w : World} {ρ : X → V} {ρc : Operand → Value} {r : AN × Heap}

theorem good_app (hR : Rel K m base H w) (hρ : Ops K m H.length ρ ρc) {ts : Array TypeId} {ty e : TypeId} {cn : Array Bool} {i : TypeInfo} {z : Value} (hT : AppT K.P ts e i z) {s x : Operand} {s' x' : X} (hs : cX K.G s = some s') (hx : cX K.G x = some x')
    (h : aop ρ (.app e i.size i.bytes s' x') H = some r) : Good K base m H w ((builtin .append ts ty cn #[ρc s, ρc x]).run K.P w) r := by
  simp only [aop] at h
  have hsR := hρ s s' hs
  have hxR := hρ x x' hx
  split at h
  · rename_i a n c o b k kc ko h1 h2
    rw [h1] at hsR
    rw [h2] at hxR
    have hxR' : (Cell.sl b k kc ko).R m H.length (ρc x) := hxR
    obtain ⟨p, c', hxv, _, _⟩ := sl_R hxR'
    have hk : Builtin.lenOf (ρc x) = pure k := by rw [hxv]; rfl
    cases b with
    | none =>
      simp only [] at h
      split at h
      · rename_i hk0
        subst hk0
        obtain ⟨nw, hn1, hn2, hn3⟩ := run_first (sz := i.size) (j := 0) hR hxR' (Nat.le_refl _) (new := []) rfl
        exact good_appH hR hT hsR hk hn3 hn1 hn2 h
      · cases h
    | some b =>
      simp only [] at h
      cases hld : H.ldn b (k * i.size) with
      | none => simp [hld] at h
      | some new =>
        simp only [hld, Option.bind_some] at h
        obtain ⟨nw, hn1, hn2, hn3⟩ := run_first (sz := i.size) (j := k) hR hxR' (Nat.le_refl _) (new := new) hld
        exact good_appH hR hT hsR hk hn3 hn1 hn2 h
  · cases h

theorem byteCells_R (m : Inj) (n : Nat) (t : ByteArray) : RL m n (byteCells t) ((t.extract 0 t.size).data.map fun b => Value.int .u8 b.toNat).toList := by
  rw [ByteArray.extract_zero_size, Array.toList_map]
  unfold byteCells
  generalize t.data.toList = l
  induction l with
  | nil => exact .nil
  | cons b l ih => exact .cons rfl ih

theorem good_appT (hR : Rel K m base H w) (hρ : Ops K m H.length ρ ρc) {ts : Array TypeId} {ty e : TypeId} {cn : Array Bool} {i : TypeInfo} {z : Value} (hT : AppT K.P ts e i z) (hi1 : i.size = 1) (hi2 : i.bytes = 1) {s x : Operand} {s' x' : X} (hs : cX K.G s = some s') (hx : cX K.G x = some x')
    (h : aop ρ (.appT e s' x') H = some r) : Good K base m H w ((builtin .append ts ty cn #[ρc s, ρc x]).run K.P w) r := by
  simp only [aop] at h
  have hsR := hρ s s' hs
  have hxR := hρ x x' hx
  split at h
  · rename_i a n c o t h1 h2
    rw [h1] at hsR
    rw [h2] at hxR
    have hxv : ρc x = .string t := hxR
    have hk : Builtin.lenOf (ρc x) = pure t.size := by rw [hxv]; rfl
    have h' : appH H i.size i.bytes a n c o t.size (byteCells t) = some r := by rw [hi1, hi2]; exact h
    refine good_appH hR hT hsR hk (by rw [hi1]; simp [byteCells]) (nw := (t.extract 0 t.size).data.map fun b => Value.int .u8 b.toNat) (fun w' _ => by rw [hxv]; rfl) (byteCells_R m H.length t) h'
  · cases h

theorem good_cpy (hR : Rel K m base H w) (hρ : Ops K m H.length ρ ρc) {ts : Array TypeId} {T ty e : TypeId} {cn : Array Bool} {n : Nat} (hT : ts[0]? = some T) (hu : K.P.underlying T = some (.slice e)) (hn : szOf K.P e = some n) {s x : Operand} {s' x' : X} (hs : cX K.G s = some s') (hx : cX K.G x = some x')
    (h : aop ρ (.cpy n s' x') H = some r) : Good K base m H w ((builtin .copy ts ty cn #[ρc s, ρc x]).run K.P w) r := by
  simp only [aop] at h
  have hsR := hρ s s' hs
  have hxR := hρ x x' hx
  have e0 : (#[ρc s, ρc x] : Array Value)[0]? = some (ρc s) := rfl
  have e1 : (#[ρc s, ρc x] : Array Value)[1]? = some (ρc x) := rfl
  split at h
  · rename_i a k c o b q qc qo h1 h2
    rw [h1] at hsR
    rw [h2] at hxR
    have hsR' : (Cell.sl a k c o).R m H.length (ρc s) := hsR
    have hxR' : (Cell.sl b q qc qo).R m H.length (ρc x) := hxR
    obtain ⟨p, c', hsv, hp, _⟩ := sl_R hsR'
    obtain ⟨p2, c2', hxv, hp2, _⟩ := sl_R hxR'
    have hlen : Builtin.lenOf (ρc x) = pure q := by rw [hxv]; rfl
    have run : ∀ {vs : Array Value} {w' : World}, (Builtin.firstCells n (min q k) (ρc x)).run K.P w = .ok vs w → (p.elim (pure ()) fun a => storeCells a vs.toList : Sem Unit).run K.P w = .ok () w' →
        (builtin .copy ts ty cn #[ρc s, ρc x]).run K.P w = .ok (.value (.int .i64 (min q k : Nat))) w' := by
      intro vs w' hv hw'
      unfold builtin
      simp only []
      rw [run_v]
      simp only [Builtin.copy_, hT, e0, e1]
      simp only [Sem.run_bind, run_underlying hu, Result.andThen_ok, hlen, Sem.run_pure, run_szOf hn]
      rw [hsv]
      simp only [Sem.run_bind, hlen, Result.andThen_ok, Sem.run_pure, run_szOf hn]
      rw [show Nat.min q k = min q k from rfl, hv]
      simp only [Result.andThen_ok]
      cases p with
      | none =>
        simp only [Option.elim_none, Sem.run_pure, Result.ok.injEq, true_and] at hw'
        subst hw'
        simp [goInt]
      | some A =>
        simp only [Option.elim_some] at hw'
        simp [hw', goInt]
    by_cases hj : min q k = 0
    · rw [if_pos hj] at h
      cases h
      have hv : (Builtin.firstCells n (min q k) (ρc x)).run K.P w = .ok #[] w := by
        rw [hj, hxv]
        cases p2 <;> simp [Builtin.firstCells, loadCells, loadCellsFrom]
      have := run hv (w' := w) (by cases p <;> rfl)
      rw [this, hj]
      exact Good.val hR (show (V.c (.int _ _)).R m H.length _ from rfl)
    · rw [if_neg hj] at h
      cases a with
      | none => simp at h
      | some a =>
      cases b with
      | none => simp at h
      | some b =>
      simp only [] at h
      cases hld : H.ldn b (min q k * n) with
      | none => simp [hld] at h
      | some new =>
      simp only [hld, Option.bind_some] at h
      cases hst : H.st a new with
      | none => simp [hst] at h
      | some H' =>
      simp [hst] at h; subst h
      obtain ⟨nw, hn1, hn2, hn3⟩ := run_first (sz := n) (j := min q k) hR hxR' (Nat.min_le_left _ _) (new := new) hld
      obtain ⟨w', hs1, hs2, hs3, hs4⟩ := hR.stores hst hn2
      obtain ⟨hl, hkc, A, c'', hsv', hc', hA⟩ := hsR'
      have hA' : A = adr m a := by
        rcases hA with hA | h0
        · exact hA
        · split at hc' <;> omega
      have hp' : p = some (adr m a) := by
        rw [hsv] at hsv'
        cases hsv'
        rw [hA']
      have := run (hn1 w rfl) (w' := w') (by rw [hp']; exact hs1)
      rw [this]
      exact ⟨m, w', .inl ⟨_, rfl, by simp [V.R, Cell.R]⟩, hs2, by rw [hs4]; exact Later.refl _ _, hs3⟩
  · cases h

theorem good_clr (hR : Rel K m base H w) (hρ : Ops K m H.length ρ ρc) {ts : Array TypeId} {T ty e : TypeId} {cn : Array Bool} {n : Nat} (hT : ts[0]? = some T) (hu : K.P.underlying T = some (.slice e)) (hn : szOf K.P e = some n) {z : V} (hz : zOf K.P e = some z) {zc : List Cell} (hzc : z.cells = some zc)
    {x : Operand} {x' : X} (hx : cX K.G x = some x') (h : aop ρ (.clr n zc x') H = some r) : Good K base m H w ((builtin .clear ts ty cn #[ρc x]).run K.P w) r := by
  simp only [aop] at h
  have hxR := hρ x x' hx
  have e0 : (#[ρc x] : Array Value)[0]? = some (ρc x) := rfl
  unfold builtin
  simp only []
  rw [run_v]
  split at h
  · rename_i a k c o h1
    rw [h1] at hxR
    have hxR' : (Cell.sl a k c o).R m H.length (ρc x) := hxR
    split at h
    · rename_i hk
      cases h
      subst hk
      obtain ⟨p, c', hxv, hp, _⟩ := sl_R hxR'
      have : (Builtin.clear_ ts ty #[ρc x]).run K.P w = .ok undef w := by
        unfold Builtin.clear_
        simp only [hT, e0]
        rw [hxv]
        cases p <;> simp [undef, run_underlying hu]
      rw [this]
      exact Good.val hR (V.R_undef _ _)
    · rename_i hk
      cases a with
      | none => simp at h
      | some a =>
        simp only [] at h
        split at h
        · rename_i hzl
          cases hst : H.st a (grows zc k) with
          | none => simp [hst] at h
          | some H' =>
            simp [hst] at h; subst h
            obtain ⟨v, hz1, hz2⟩ := run_zOf hz w
            have hzR := (vOf_R hz2 m H.length).cells hzc
            obtain ⟨hl, hkc, A, c', hxv, hc', hA⟩ := hxR'
            have hA' : A = adr m a := by
              rcases hA with hA | h0
              · exact hA
              · split at hc' <;> omega
            have hzl2 := hzR.length
            simp at hzl2
            have hg := RL_grows hzR k
            obtain ⟨w', hs1, hs2, hs3, hs4⟩ := hR.stores hst hg
            have : (Builtin.clear_ ts ty #[ρc x]).run K.P w = .ok undef w' := by
              unfold Builtin.clear_
              simp only [hT, e0]
              rw [hxv]
              simp only [Sem.run_bind, run_underlying hu, Result.andThen_ok]
              have hz3 : Builtin.zeroCells v.cells k = (Array.range (k * zc.length)).map (fun i => v.cells[i % v.cells.size]!) := by
                unfold Builtin.zeroCells
                rw [hzl2]
              obtain ⟨k, rfl⟩ : ∃ q, k = q + 1 := ⟨k - 1, by omega⟩
              simp only [Sem.run_bind, hz1, Result.andThen_ok]
              rw [hz3, hA', hs1]
              rfl
            rw [this]
            exact ⟨m, w', .inl ⟨_, rfl, V.R_undef _ _⟩, hs2, by rw [hs4]; exact Later.refl _ _, hs3⟩
        · cases h
  · cases h

theorem wrap_small {i : Int} (h0 : 0 ≤ i) (h : i ≤ 2 ^ 40) : IntKind.i64.wrap i = i := by
  rw [IntKind.wrap_i64]
  omega

theorem good_mksl (hR : Rel K m base H w) (hρ : Ops K m H.length ρ ρc) {T e : TypeId} (hu : K.P.underlying T = some (.slice e)) {i : TypeInfo} (hi : K.P.info? e = some i) {z : V} (hz : zOf K.P e = some z) {zc : List Cell} (hzc : z.cells = some zc)
    {l c : Operand} {l' c' : X} (hl : cX K.G l = some l') (hc : cX K.G c = some c') (h : aop ρ (.mksl e i.size i.bytes zc l' c') H = some r) :
    Good K base m H w ((do pure (Next.value (← Instr.makeSlice T (ρc l) (ρc c))) : Sem Next).run K.P w) r := by
  simp only [aop] at h
  cases h1 : asI (ρ l') with
  | none => simp [h1] at h
  | some L =>
    cases h2 : asI (ρ c') with
    | none => simp [h1, h2] at h
    | some C =>
      simp only [h1, h2, Option.bind_some] at h
      split at h
      · rename_i hh
        cases h
        obtain ⟨hL0, hLC, hCm, hzs⟩ := hh
        obtain ⟨kl, hlv⟩ := asI_R h1 (hρ l l' hl)
        obtain ⟨kc, hcv⟩ := asI_R h2 (hρ c c' hc)
        have hm : most = 2 ^ 40 := rfl
        have hC40 : C ≤ 2 ^ 40 := by
          have : C * 1 ≤ C * (i.bytes + 1) := Int.mul_le_mul_of_nonneg_left (by omega) (by omega)
          omega
        have hCb : (i.bytes : Int) * C ≤ 2 ^ 40 := by
          have : C * (i.bytes : Int) ≤ C * (i.bytes + 1) := Int.mul_le_mul_of_nonneg_left (by omega) (by omega)
          rw [Int.mul_comm]
          omega
        obtain ⟨v, hz1, hz2⟩ := run_zOf hz w
        have hzR := (vOf_R hz2 m H.length).cells hzc
        have hwL : IntKind.i64.wrap L = L := wrap_small hL0 (by omega)
        have hwC : IntKind.i64.wrap C = C := wrap_small (by omega) hC40
        have hinfo : (typeInfo e).run K.P w = .ok i w := by simp [typeInfo, hi]
        have key : ∃ cs : Array Value, RL m H.length (grows zc C.toNat) cs.toList ∧ (Instr.makeSlice T (ρc l) (ρc c)).run K.P w = .ok (.slice (some ⟨w.heap.size, 0, none⟩) L.toNat C.toNat) (w.alloc (.cells cs e)) := by
          by_cases h0 : C.toNat * i.size = 0
          · refine ⟨#[], ?_, ?_⟩
            · have : (grows zc C.toNat).length = 0 := by
                rw [grows_length]
                rcases hzs with hzs | hc0
                · rw [hzs]; exact h0
                · have : C.toNat = 0 := by omega
                  rw [this, Nat.zero_mul]
              rw [List.length_eq_zero_iff.1 this]
              exact .nil
            · unfold Instr.makeSlice
              simp only [Sem.run_bind, run_underlying hu, Result.andThen_ok, hlv, hcv, asInt, asIntOf, Sem.run_pure, hinfo, hwL, hwC]
              rw [if_neg (by simp; omega)]
              simp only [Sem.run_bind, run_askRoom, Result.andThen_ok, run_size hi, h0, if_true, Sem.run_pure, run_newRow]
              rw [show (Array.range 0).map (fun x => (#[] : Array Value)[x % (#[] : Array Value).size]!) = #[] from by simp]
          · refine ⟨(Array.range (C.toNat * zc.length)).map (fun j => v.cells[j % v.cells.size]!), RL_grows hzR _, ?_⟩
            have hzs' : zc.length = i.size := by
              rcases hzs with h | h
              · exact h
              · exfalso; apply h0; have : C.toNat = 0 := by omega
                rw [this, Nat.zero_mul]
            unfold Instr.makeSlice
            simp only [Sem.run_bind, run_underlying hu, Result.andThen_ok, hlv, hcv, asInt, asIntOf, Sem.run_pure, hinfo, hwL, hwC]
            rw [if_neg (by simp; omega)]
            simp only [Sem.run_bind, run_askRoom, Result.andThen_ok, run_size hi, h0, if_false, Sem.run_pure, hz1, run_newRow, hzs']
        obtain ⟨cs, hcs, hrun⟩ := key
        rw [run_v, hrun]
        exact Good.fresh_sl hR e hcs _ _ (by omega)
      · cases h


/-! ### Bytes as a string -/
def bytesV (vs : List Value) : Option (List UInt8) := vs.mapM fun | .int .u8 n => some (UInt8.ofNat n.toNat) | _ => none

theorem bytesOf_R {m : Inj} {n : Nat} : ∀ {cs : List Cell} {vs : List Value} {l : List UInt8}, RL m n cs vs → bytesOf cs = some l → bytesV vs = some l := by
  intro cs
  induction cs with
  | nil => intro vs l h hb; cases h; simp [bytesOf] at hb; subst hb; rfl
  | cons c cs ih =>
    intro vs l h hb
    cases h with
    | @cons _ v _ vs hx hv =>
      unfold bytesOf at hb
      split at hb
      · rename_i heq; cases heq
      · rename_i i r heq
        cases heq
        cases hr : bytesOf cs with
        | none => simp [hr] at hb
        | some l' =>
          simp [hr] at hb; subst hb
          have := ih hv hr
          cases hx
          unfold bytesV at this ⊢
          simp [this]
      · cases hb

theorem push_append (a : ByteArray) (b : UInt8) (l : List UInt8) : (a.push b) ++ (⟨l.toArray⟩ : ByteArray) = a ++ (⟨(b :: l).toArray⟩ : ByteArray) := by
  apply ByteArray.ext
  simp [ByteArray.data_append, ByteArray.data_push]

theorem forIn_bytes {P : Program} {w : World} : ∀ (vs : List Value) (l : List UInt8) (acc : ByteArray), bytesV vs = some l →
    (forIn vs acc (fun c s => match c with
      | .int .u8 n => do pure (ForInStep.yield (s.push (UInt8.ofNat n.toNat)))
      | _ => do stuck "bytesToString: byte expected"; pure (ForInStep.yield s)) : Sem ByteArray).run P w = .ok (acc ++ ⟨l.toArray⟩) w := by
  intro vs
  induction vs with
  | nil => intro l acc h; simp [bytesV] at h; subst h; simp [ByteArray.ext_iff]
  | cons v vs ih =>
    intro l acc h
    unfold bytesV at h
    rw [List.mapM_cons] at h
    rw [List.forIn_cons]
    cases v with
    | int k n =>
      cases k with
      | u8 =>
        simp only [Option.pure_def, Option.bind_eq_bind, Option.bind_some] at h
        cases hr : bytesV vs with
        | none => unfold bytesV at hr; rw [hr] at h; simp at h
        | some l' =>
          have hr' := hr
          unfold bytesV at hr'
          rw [hr'] at h
          simp at h; subst h
          simp only [Sem.run_bind, Sem.run_pure, Result.andThen_ok, ih l' _ hr, push_append]
      | _ => simp at h
    | _ => simp at h

end
end Go.Proofs.Ytnepeleepmhdaaa.AM
