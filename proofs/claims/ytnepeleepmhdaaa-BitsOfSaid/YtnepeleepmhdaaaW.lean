/- What the functions of the law BitsOf come to in the abstract machine: the law answers true for every input. -/
import Derived.Test.YtnepeleepmhdaaaAM23
import Derived.Laws.BitsLemmas
import Derived.Test.YtnepeleepmhdaaaProg
set_option linter.unusedVariables false
set_option linter.unusedSimpArgs false
namespace Go.Proofs.Ytnepeleepmhdaaa.AM.T12
open Go Go.Proofs.Ytnepeleepmhdaaa.AM Go.Proofs
-- f 3 rota/rotalaw12.BitsOf: bads 0, calls [4, 5, 6]
abbrev o3_0 : List IOper := [⟨(some 2), .mv (.k (.c (.bool false))), none⟩]
abbrev o3_1 : List IOper := [⟨(some 8), .mv (.t 0), none⟩,
  ⟨(some 9), .len false (.t 8), none⟩,
  ⟨(some 10), .bin .gtr (.t 9) (.k (.c (.int .i64 1000))), none⟩]
abbrev o3_2 : List IOper := [⟨(some 2), .mv (.k (.c (.bool true))), none⟩]
abbrev o3_3 : List IOper := [⟨(some 3), .mv (.k (.c (.sl none 0 0 false))), none⟩]
abbrev o3_4 : List IOper := [⟨(some 11), .mv (.t 3), none⟩,
  ⟨(some 12), .mv (.t 0), none⟩,
  ⟨(some 13), .app 3 1 8 (.t 11) (.t 12), none⟩,
  ⟨(some 14), .bsl 3 1 [(.int .i64 0)] [(0, 1, (.k (.c (.int .i64 77))))], none⟩,
  ⟨(some 15), .app 3 1 8 (.t 13) (.t 14), none⟩,
  ⟨(some 3), .mv (.t 15), none⟩]
abbrev o3_5 : List IOper := [⟨(some 17), .mv (.t 3), none⟩,
  ⟨(some 18), .mv (.t 0), none⟩,
  ⟨(some 19), .len false (.t 18), none⟩,
  ⟨(some 20), .slS 1 (.t 17) none (some (.t 19)) none, none⟩,
  ⟨(some 21), .call (.k (.c (.fn 4 [] []))) [(.t 20)], none⟩,
  ⟨(some 16), .mv (.t 21), none⟩,
  ⟨(some 22), .ext (.t 16) 0, none⟩,
  ⟨(some 23), .ext (.t 16) 1, none⟩,
  ⟨(some 4), .mv (.t 22), none⟩,
  ⟨(some 5), .mv (.t 23), none⟩]
abbrev o3_6 : List IOper := [⟨(some 25), .mv (.t 0), none⟩,
  ⟨(some 26), .call (.k (.c (.fn 5 [] []))) [(.t 25)], none⟩,
  ⟨(some 24), .mv (.t 26), none⟩,
  ⟨(some 27), .ext (.t 24) 0, none⟩,
  ⟨(some 28), .ext (.t 24) 1, none⟩,
  ⟨(some 6), .mv (.t 27), none⟩,
  ⟨(some 7), .mv (.t 28), none⟩]
abbrev o3_7 : List IOper := [⟨(some 29), .mv (.t 4), none⟩,
  ⟨(some 30), .mv (.t 6), none⟩,
  ⟨(some 31), .bin .eql (.t 29) (.t 30), none⟩,
  ⟨(some 32), .mv (.t 31), none⟩,
  ⟨(some 33), .mv (.t 5), some (32, true)⟩,
  ⟨(some 34), .mv (.t 7), some (32, true)⟩,
  ⟨(some 35), .bin .eql (.t 33) (.t 34), some (32, true)⟩,
  ⟨(some 36), .pick (.t 32) (.t 35) (.k (.c (.bool false))), none⟩,
  ⟨(some 37), .mv (.t 36), none⟩,
  ⟨(some 38), .mv (.t 3), some (37, true)⟩,
  ⟨(some 39), .mv (.t 0), some (37, true)⟩,
  ⟨(some 40), .len false (.t 39), some (37, true)⟩,
  ⟨(some 41), .slS 1 (.t 38) none (some (.t 40)) none, some (37, true)⟩,
  ⟨(some 42), .mv (.t 0), some (37, true)⟩,
  ⟨(some 43), .call (.k (.c (.fn 6 [] []))) [(.t 41), (.t 42)], some (37, true)⟩,
  ⟨(some 44), .pick (.t 37) (.t 43) (.k (.c (.bool false))), none⟩,
  ⟨(some 45), .mv (.t 44), none⟩,
  ⟨(some 46), .mv (.t 3), some (45, true)⟩,
  ⟨(some 47), .mv (.t 0), some (45, true)⟩,
  ⟨(some 48), .len false (.t 47), some (45, true)⟩,
  ⟨(some 49), .iaS 1 (.t 46) (.t 48), some (45, true)⟩,
  ⟨(some 50), .ld none (.t 49), some (45, true)⟩,
  ⟨(some 51), .bin .eql (.t 50) (.k (.c (.int .i64 77))), some (45, true)⟩,
  ⟨(some 52), .pick (.t 45) (.t 51) (.k (.c (.bool false))), none⟩,
  ⟨(some 2), .mv (.t 52), none⟩]
def c3 : IC := (.seq (.ops o3_0) (.seq (.seq (.ops o3_1) (.cond (.t 10) (.seq (.ops o3_2) .ret) .skip)) (.seq (.ops o3_3) (.seq (.ops o3_4) (.seq (.ops o3_5) (.seq (.ops o3_6) (.seq (.ops o3_7) .ret)))))))
def i3 : IFn := ⟨53, c3, [(2, none)]⟩

-- f 4 rota/bits.Of: bads 0, calls []
abbrev o4_0 : List IOper := [⟨(some 2), .mv (.k (.c (.int .u64 0))), none⟩,
  ⟨(some 3), .mv (.k (.c (.int .i64 0))), none⟩]
abbrev o4_1 : List IOper := [⟨(some 6), .mv (.t 0), none⟩,
  ⟨(some 7), .len false (.t 6), none⟩,
  ⟨(some 8), .mv (.k (.c (.int .i64 0))), none⟩]
abbrev o4_2 : List IOper := [⟨(some 9), .bin .lss (.t 8) (.t 7), none⟩]
abbrev o4_3 : List IOper := [⟨(some 10), .iaS 1 (.t 6) (.t 8), none⟩,
  ⟨(some 11), .ld none (.t 10), none⟩,
  ⟨(some 5), .mv (.t 11), none⟩]
abbrev o4_4 : List IOper := [⟨(some 12), .mv (.t 5), none⟩,
  ⟨(some 13), .bin .lss (.t 12) (.k (.c (.int .i64 0))), none⟩,
  ⟨(some 14), .mv (.t 13), none⟩,
  ⟨(some 15), .mv (.t 5), some (14, false)⟩,
  ⟨(some 16), .bin .geq (.t 15) (.k (.c (.int .i64 64))), some (14, false)⟩,
  ⟨(some 17), .pick (.t 14) (.k (.c (.bool true))) (.t 16), none⟩]
abbrev o4_5 : List IOper := [⟨(some 2), .mv (.k (.c (.int .u64 0))), none⟩,
  ⟨(some 3), .mv (.k (.c (.int .i64 120))), none⟩]
abbrev o4_6 : List IOper := [⟨(some 18), .mv (.t 2), none⟩,
  ⟨(some 19), .mv (.t 5), none⟩,
  ⟨(some 20), .bin .shl (.k (.c (.int .u64 1))) (.t 19), none⟩,
  ⟨(some 21), .bin .or (.t 18) (.t 20), none⟩,
  ⟨(some 2), .mv (.t 21), none⟩]
abbrev o4_7 : List IOper := [⟨(some 22), .bin .add (.t 8) (.k (.c (.int .i64 1))), none⟩,
  ⟨(some 8), .mv (.t 22), none⟩]
def b4_8 : IC := (.seq (.ops o4_2) (.seq (.cond (.t 9) .skip (.exit 0)) (.seq (.block 1 (.seq (.ops o4_3) (.seq (.seq (.ops o4_4) (.cond (.t 17) (.seq (.ops o4_5) .ret) .skip)) (.ops o4_6)))) (.ops o4_7))))
abbrev o4_9 : List IOper := [⟨(some 23), .mv (.t 2), none⟩,
  ⟨(some 2), .mv (.t 23), none⟩,
  ⟨(some 3), .mv (.k (.c (.int .i64 0))), none⟩]
def c4 : IC := (.seq (.ops o4_0) (.seq (.seq (.ops o4_1) (.block 0 (.loop b4_8))) (.seq (.ops o4_9) .ret)))
def i4 : IFn := ⟨24, c4, [(2, none), (3, none)]⟩

-- f 5 rota/rotaref12.Of: bads 0, calls [7]
abbrev o5_0 : List IOper := [⟨(some 2), .mv (.k (.c (.int .u64 0))), none⟩,
  ⟨(some 3), .mv (.k (.c (.int .i64 0))), none⟩]
abbrev o5_1 : List IOper := [⟨(some 4), .new 31 (.agg (List.replicate 64 (.bool false))), none⟩]
abbrev o5_2 : List IOper := [⟨(some 5), .mv (.k (.c (.int .i64 0))), none⟩]
abbrev o5_3 : List IOper := [⟨(some 6), .mv (.t 5), none⟩,
  ⟨(some 7), .mv (.t 0), none⟩,
  ⟨(some 8), .len false (.t 7), none⟩,
  ⟨(some 9), .bin .lss (.t 6) (.t 8), none⟩]
abbrev o5_4 : List IOper := [⟨(some 12), .mv (.t 0), none⟩,
  ⟨(some 13), .mv (.t 5), none⟩,
  ⟨(some 14), .iaS 1 (.t 12) (.t 13), none⟩,
  ⟨(some 15), .ld none (.t 14), none⟩,
  ⟨(some 16), .bin .lss (.t 15) (.k (.c (.int .i64 0))), none⟩,
  ⟨(some 17), .mv (.t 16), none⟩,
  ⟨(some 18), .mv (.t 0), some (17, false)⟩,
  ⟨(some 19), .mv (.t 5), some (17, false)⟩,
  ⟨(some 20), .iaS 1 (.t 18) (.t 19), some (17, false)⟩,
  ⟨(some 21), .ld none (.t 20), some (17, false)⟩,
  ⟨(some 22), .bin .geq (.t 21) (.k (.c (.int .i64 64))), some (17, false)⟩,
  ⟨(some 23), .pick (.t 17) (.k (.c (.bool true))) (.t 22), none⟩]
abbrev o5_5 : List IOper := [⟨(some 2), .mv (.k (.c (.int .u64 0))), none⟩,
  ⟨(some 3), .mv (.k (.c (.int .i64 120))), none⟩]
abbrev o5_6 : List IOper := [⟨(some 24), .mv (.t 0), none⟩,
  ⟨(some 25), .mv (.t 5), none⟩,
  ⟨(some 26), .iaS 1 (.t 24) (.t 25), none⟩,
  ⟨(some 27), .ld none (.t 26), none⟩,
  ⟨(some 28), .iaA 64 1 (.t 4) (.t 27), none⟩,
  ⟨none, .st 1 (.t 28) (.k (.c (.bool true))), none⟩]
abbrev o5_7 : List IOper := [⟨(some 10), .mv (.t 5), none⟩,
  ⟨(some 11), .bin .add (.t 10) (.k (.c (.int .i64 1))), none⟩,
  ⟨(some 5), .mv (.t 11), none⟩]
def b5_8 : IC := (.seq (.seq (.ops o5_3) (.cond (.t 9) .skip (.exit 0))) (.seq (.block 1 (.seq (.seq (.ops o5_4) (.cond (.t 23) (.seq (.ops o5_5) .ret) .skip)) (.ops o5_6))) (.ops o5_7)))
abbrev o5_9 : List IOper := [⟨(some 29), .ld (some 64) (.t 4), none⟩,
  ⟨(some 30), .call (.k (.c (.fn 7 [] []))) [(.t 29)], none⟩,
  ⟨(some 2), .mv (.t 30), none⟩,
  ⟨(some 3), .mv (.k (.c (.int .i64 0))), none⟩]
def c5 : IC := (.seq (.ops o5_0) (.seq (.ops o5_1) (.seq (.seq (.ops o5_2) (.block 0 (.loop b5_8))) (.seq (.ops o5_9) .ret))))
def i5 : IFn := ⟨31, c5, [(2, none), (3, none)]⟩

-- f 6 rota/rotaref12.Ints: bads 0, calls []
abbrev o6_0 : List IOper := [⟨(some 4), .mv (.k (.c (.bool false))), none⟩]
abbrev o6_1 : List IOper := [⟨(some 6), .mv (.t 0), none⟩,
  ⟨(some 7), .len false (.t 6), none⟩,
  ⟨(some 8), .mv (.t 1), none⟩,
  ⟨(some 9), .len false (.t 8), none⟩,
  ⟨(some 10), .bin .neq (.t 7) (.t 9), none⟩]
abbrev o6_2 : List IOper := [⟨(some 4), .mv (.k (.c (.bool false))), none⟩]
abbrev o6_3 : List IOper := [⟨(some 5), .mv (.k (.c (.int .i64 0))), none⟩]
abbrev o6_4 : List IOper := [⟨(some 11), .mv (.t 5), none⟩,
  ⟨(some 12), .mv (.t 0), none⟩,
  ⟨(some 13), .len false (.t 12), none⟩,
  ⟨(some 14), .bin .lss (.t 11) (.t 13), none⟩]
abbrev o6_5 : List IOper := [⟨(some 17), .mv (.t 0), none⟩,
  ⟨(some 18), .mv (.t 5), none⟩,
  ⟨(some 19), .iaS 1 (.t 17) (.t 18), none⟩,
  ⟨(some 20), .ld none (.t 19), none⟩,
  ⟨(some 21), .mv (.t 1), none⟩,
  ⟨(some 22), .mv (.t 5), none⟩,
  ⟨(some 23), .iaS 1 (.t 21) (.t 22), none⟩,
  ⟨(some 24), .ld none (.t 23), none⟩,
  ⟨(some 25), .bin .neq (.t 20) (.t 24), none⟩]
abbrev o6_6 : List IOper := [⟨(some 4), .mv (.k (.c (.bool false))), none⟩]
abbrev o6_7 : List IOper := [⟨(some 15), .mv (.t 5), none⟩,
  ⟨(some 16), .bin .add (.t 15) (.k (.c (.int .i64 1))), none⟩,
  ⟨(some 5), .mv (.t 16), none⟩]
def b6_8 : IC := (.seq (.seq (.ops o6_4) (.cond (.t 14) .skip (.exit 0))) (.seq (.block 1 (.seq (.ops o6_5) (.cond (.t 25) (.seq (.ops o6_6) .ret) .skip))) (.ops o6_7)))
abbrev o6_9 : List IOper := [⟨(some 4), .mv (.k (.c (.bool true))), none⟩]
def c6 : IC := (.seq (.ops o6_0) (.seq (.seq (.ops o6_1) (.cond (.t 10) (.seq (.ops o6_2) .ret) .skip)) (.seq (.seq (.ops o6_3) (.block 0 (.loop b6_8))) (.seq (.ops o6_9) .ret))))
def i6 : IFn := ⟨26, c6, [(4, none)]⟩

-- f 7 rota/rotaref12.Number: bads 0, calls []
abbrev o7_0 : List IOper := [⟨(some 1), .box 31 (.t 0), none⟩,
  ⟨(some 2), .mv (.k (.c (.int .u64 0))), none⟩]
abbrev o7_1 : List IOper := [⟨(some 3), .mv (.k (.c (.int .u64 0))), none⟩]
abbrev o7_2 : List IOper := [⟨(some 4), .mv (.k (.c (.int .i64 63))), none⟩]
abbrev o7_3 : List IOper := [⟨(some 5), .mv (.t 4), none⟩,
  ⟨(some 6), .bin .geq (.t 5) (.k (.c (.int .i64 0))), none⟩]
abbrev o7_4 : List IOper := [⟨(some 9), .mv (.t 3), none⟩,
  ⟨(some 10), .bin .mul (.k (.c (.int .u64 2))) (.t 9), none⟩,
  ⟨(some 3), .mv (.t 10), none⟩]
abbrev o7_5 : List IOper := [⟨(some 11), .mv (.t 4), none⟩,
  ⟨(some 12), .iaA 64 1 (.t 1) (.t 11), none⟩,
  ⟨(some 13), .ld none (.t 12), none⟩]
abbrev o7_6 : List IOper := [⟨(some 14), .mv (.t 3), none⟩,
  ⟨(some 15), .bin .add (.t 14) (.k (.c (.int .u64 1))), none⟩,
  ⟨(some 3), .mv (.t 15), none⟩]
abbrev o7_7 : List IOper := [⟨(some 7), .mv (.t 4), none⟩,
  ⟨(some 8), .bin .sub (.t 7) (.k (.c (.int .i64 1))), none⟩,
  ⟨(some 4), .mv (.t 8), none⟩]
def b7_8 : IC := (.seq (.seq (.ops o7_3) (.cond (.t 6) .skip (.exit 0))) (.seq (.block 1 (.seq (.ops o7_4) (.seq (.ops o7_5) (.cond (.t 13) (.ops o7_6) .skip)))) (.ops o7_7)))
abbrev o7_9 : List IOper := [⟨(some 16), .mv (.t 3), none⟩,
  ⟨(some 2), .mv (.t 16), none⟩]
def c7 : IC := (.seq (.ops o7_0) (.seq (.ops o7_1) (.seq (.seq (.ops o7_2) (.block 0 (.loop b7_8))) (.seq (.ops o7_9) .ret))))
def i7 : IFn := ⟨17, c7, [(2, none)]⟩
def fs12 : List (Nat × IFn) := [(3, i3), (4, i4), (5, i5), (6, i6), (7, i7)]
def F12 : FuncId → Option Fun := funs fs12
theorem e3 : F12 3 = some (.code ⟨53, c3, [(2, none)]⟩) := by rfl
theorem e4 : F12 4 = some (.code ⟨24, c4, [(2, none), (3, none)]⟩) := by rfl
theorem e5 : F12 5 = some (.code ⟨31, c5, [(2, none), (3, none)]⟩) := by rfl
theorem e6 : F12 6 = some (.code ⟨26, c6, [(4, none)]⟩) := by rfl
theorem e7 : F12 7 = some (.code ⟨17, c7, [(2, none)]⟩) := by rfl
def orAll (s : Int) : List Int → Option Int
  | [] => some s
  | x :: r => if x < 0 ∨ 64 ≤ x then none else orAll (bits .or .u64 s (IntKind.u64.wrap (1 * 2 ^ (min x.toNat 64)))) r
/-- The number that flags are. -/
def natOf : List Bool → Nat
  | [] => 0
  | b :: r => 2 * natOf r + b.toNat
theorem natOf_lt : ∀ l : List Bool, natOf l < 2 ^ l.length
  | [] => by simp [natOf]
  | b :: r => by have := natOf_lt r; rw [natOf, List.length_cons, Nat.pow_succ]; cases b <;> simp <;> omega
theorem natOf_bit : ∀ (l : List Bool) (i : Nat), (natOf l).testBit i = (l[i]?).getD false
  | [], i => by simp [natOf]
  | b :: r, 0 => by rw [natOf, Nat.testBit_zero, List.getElem?_cons_zero, Option.getD_some]; cases b <;> simp <;> omega
  | b :: r, i + 1 => by
    rw [natOf, Nat.testBit_succ, List.getElem?_cons_succ, ← natOf_bit r i]
    congr 1
    cases b <;> simp <;> omega
theorem natOf_set (l : List Bool) (i : Nat) (h : i < l.length) : natOf (l.set i true) = natOf l ||| 2 ^ i := by
  apply Nat.eq_of_testBit_eq
  intro j
  rw [natOf_bit, Nat.testBit_or, natOf_bit, Nat.testBit_two_pow, List.getElem?_set]
  by_cases e : i = j
  · subst e; simp [h]
  · simp [e]
theorem natOf_false : ∀ n, natOf (List.replicate n false) = 0
  | 0 => rfl
  | n + 1 => by simp [List.replicate_succ, natOf, natOf_false n]
theorem orAll_set {l : List Bool} (hl : l.length = 64) {x : Int} (h0 : 0 ≤ x) (h1 : x < 64) : bits .or .u64 (natOf l) (IntKind.u64.wrap (1 * 2 ^ (min x.toNat 64))) = natOf (l.set x.toNat true) := by
  obtain ⟨i, rfl⟩ := Int.eq_ofNat_of_zero_le h0
  have hi : i < 64 := by omega
  have e : (1 : Int) * 2 ^ (min (Int.toNat i) 64) = ((2 ^ i : Nat) : Int) := by rw [Int.toNat_natCast, Nat.min_eq_left (by omega), Int.one_mul]; push_cast; rfl
  have hp : 2 ^ i < 2 ^ 64 := Nat.pow_lt_pow_right (by decide) hi
  rw [e, wrap_u64 (Int.natCast_nonneg _) (by simpa using (by exact_mod_cast hp : ((2 ^ i : Nat) : Int) < ((2 ^ 64 : Nat) : Int))), or_u64 (by have := natOf_lt l; rwa [hl] at this) hp, Int.toNat_natCast, natOf_set l i (by omega)]

attribute [local go_sem] WO_mv WO_val WO_nil_iff k_ev L_ev L_get Env.up_ne Env.up_same isV_v outV_v outH_v isV_outO outV_outO outH_outO isV_outS outV_outS outH_outS putT_some putT_none Env.of aop_mv aop_pick aop_bin aop_eq aop_eqagg aop_un aop_cv aop_nilck aop_ld aop_st aop_iaS aop_iaA aop_fa aop_fld aop_ix aop_ext aop_len aop_lenK aop_box aop_new aop_build aop_bsl aop_mkfn aop_slS slSO_to fillB_one fillB_nil Option.map_none List.length_cons List.length_nil List.set_cons_zero List.set_cons_succ Nat.le_refl pickO_true pickO_false binO_c eqO_c eqaO_agg unO_c cvO_int nilckO_ptr nilckO_fn ldO_one ldO_row stO_one stO_row okA_some oa_some iaSO_sl iaAO_ptr faO_ptr fldO_agg ixO_agg extO_tup lenO_sl lenO_str V.cells_c V.cells_agg Option.map_some Option.bind_some Option.getD_some List.getElem?_cons_zero List.getElem?_cons_succ List.map_cons List.map_nil V.pc Pc.v asI Int.toNat_natCast Nat.mul_one Nat.zero_mul Int.natCast_nonneg Int.ofNat_lt lss_int leq_int gtr_int geq_int eql_int neq_int add_int sub_int mul_int quo_int rem_int and_int or_int xor_int andNot_int shl_int shr_int WO_yes WO_no wanted_L flag_bool addA_mk Nat.zero_add beq_self_eq_true decide_true decide_false Bool.true_beq Bool.false_beq Bool.not_true Bool.not_false Bool.false_eq_true if_true if_false Int.cast_ofNat_Int ne_eq not_false_eq_true thenQ blockQ loopQ callQ rangeQ roundQ Ex.exit.injEq Nat.one_ne_zero Nat.zero_ne_one Int.ofNat_zero resOf resV List.mapM_cons List.mapM_nil shutAll
theorem s4 {H : Heap} {a : Option Ad} {n c : Nat} {o : Bool} {xs : List Int} (hs : Sl H 1 a n (xs.map (Cell.int .i64))) (hn : n < 2 ^ 63) :
    WC F12 4 [.c (.sl a n c o)] H fun v H2 => H2 = H ∧ v = match orAll 0 xs with | none => .tup [.c (.int .u64 0), .c (.int .i64 120)] | some s => .tup [.c (.int .u64 s), .c (.int .i64 0)] := by
  refine WC_start e4 (by simp) ?_
  repeat (first | (refine WO_id ?_; simp only [go_sem, reduceCtorEq, Nat.reduceLT, Nat.reduceBEq, Nat.reduceAdd, Nat.reduceSub, Nat.reduceMul, Nat.reduceEqDiff, Nat.reduceLeDiff, Int.reduceLT, Int.reduceLE, Int.reduceNeg]) | refine W_seq_assoc ?_ | refine W_seq_skip ?_ | refine W_seq_ops ?_ | refine W_ops ?_ | ((first | refine W_seq_ret ?_ | refine W_seq_exit ?_ | refine W_ret ?_ | refine W_exit ?_ | refine W_skip ?_); simp only [go_sem, reduceCtorEq, Nat.reduceLT, Nat.reduceBEq, Nat.reduceAdd, Nat.reduceSub, Nat.reduceMul, Nat.reduceEqDiff, Nat.reduceLeDiff, Int.reduceLT, Int.reduceLE, Int.reduceNeg]))
  have hl : xs.length = n := by simpa using hs.len
  refine W_seq (W_block (W_loop (fun m st => ∃ ρ i s, st = ⟨L 24 ρ, [], H⟩ ∧ m = n - i ∧ i ≤ n ∧ ρ 6 = .c (.sl a n c o) ∧ ρ 7 = .c (.int .i64 n) ∧ ρ 8 = .c (.int .i64 (i : Nat)) ∧ ρ 2 = .c (.int .u64 s) ∧ ρ 3 = .c (.int .i64 0) ∧ orAll s (xs.drop i) = orAll 0 xs) n ⟨_, 0, 0, rfl, rfl, Nat.zero_le _, (by simp only [go_sem, reduceCtorEq, Nat.reduceLT, Nat.reduceBEq, Nat.reduceAdd, Nat.reduceSub, Nat.reduceMul, Nat.reduceEqDiff, Nat.reduceLeDiff, Int.reduceLT, Int.reduceLE, Int.reduceNeg]; try rfl), (by simp only [go_sem, reduceCtorEq, Nat.reduceLT, Nat.reduceBEq, Nat.reduceAdd, Nat.reduceSub, Nat.reduceMul, Nat.reduceEqDiff, Nat.reduceLeDiff, Int.reduceLT, Int.reduceLE, Int.reduceNeg]; try rfl), (by simp only [go_sem, reduceCtorEq, Nat.reduceLT, Nat.reduceBEq, Nat.reduceAdd, Nat.reduceSub, Nat.reduceMul, Nat.reduceEqDiff, Nat.reduceLeDiff, Int.reduceLT, Int.reduceLE, Int.reduceNeg]; try rfl), (by simp only [go_sem, reduceCtorEq, Nat.reduceLT, Nat.reduceBEq, Nat.reduceAdd, Nat.reduceSub, Nat.reduceMul, Nat.reduceEqDiff, Nat.reduceLeDiff, Int.reduceLT, Int.reduceLE, Int.reduceNeg]; try rfl), (by simp only [go_sem, reduceCtorEq, Nat.reduceLT, Nat.reduceBEq, Nat.reduceAdd, Nat.reduceSub, Nat.reduceMul, Nat.reduceEqDiff, Nat.reduceLeDiff, Int.reduceLT, Int.reduceLE, Int.reduceNeg]; try rfl), rfl⟩ ?_))
  rintro m st ⟨ρ, i, s, rfl, rfl, hi, h6, h7, h8, h2, h3, ho⟩
  unfold b4_8
  repeat (first | (refine WO_id ?_; simp only [go_sem, reduceCtorEq, Nat.reduceLT, Nat.reduceBEq, Nat.reduceAdd, Nat.reduceSub, Nat.reduceMul, Nat.reduceEqDiff, Nat.reduceLeDiff, Int.reduceLT, Int.reduceLE, Int.reduceNeg, h6, h7, h8]) | refine W_seq_assoc ?_ | refine W_seq_skip ?_ | refine W_seq_ops ?_ | refine W_ops ?_ | ((first | refine W_seq_ret ?_ | refine W_seq_exit ?_ | refine W_ret ?_ | refine W_exit ?_ | refine W_skip ?_); simp only [go_sem, reduceCtorEq, Nat.reduceLT, Nat.reduceBEq, Nat.reduceAdd, Nat.reduceSub, Nat.reduceMul, Nat.reduceEqDiff, Nat.reduceLeDiff, Int.reduceLT, Int.reduceLE, Int.reduceNeg, h6, h7, h8]))
  refine W_seq_cond _ (by simp only [go_sem, reduceCtorEq, Nat.reduceLT, Nat.reduceBEq, Nat.reduceAdd, Nat.reduceSub, Nat.reduceMul, Nat.reduceEqDiff, Nat.reduceLeDiff, Int.reduceLT, Int.reduceLE, Int.reduceNeg] <;> rfl) ?_ ?_
  · intro hlt
    have hlt' : i < n := by simpa using hlt
    have hx : (xs.map (Cell.int .i64))[i]? = some (.int .i64 (xs[i]'(by omega))) := by simp [hl, hlt']
    obtain ⟨x, hxe⟩ : ∃ x, x = xs[i]'(by omega) := ⟨_, rfl⟩
    rw [← hxe] at hx
    have hd : xs.drop i = x :: xs.drop (i + 1) := by rw [hxe]; exact List.drop_eq_getElem_cons (by omega)
    rw [hd, orAll] at ho
    refine W_seq_skip ?_
    refine W_seq (W_block ?_)
    repeat (first | (refine WO_id ?_; simp only [go_sem, reduceCtorEq, Nat.reduceLT, Nat.reduceBEq, Nat.reduceAdd, Nat.reduceSub, Nat.reduceMul, Nat.reduceEqDiff, Nat.reduceLeDiff, Int.reduceLT, Int.reduceLE, Int.reduceNeg, h6, h8, hs.nil, hlt', (hs.get hlt').trans hx]) | refine W_seq_assoc ?_ | refine W_seq_skip ?_ | refine W_seq_ops ?_ | refine W_ops ?_ | ((first | refine W_seq_ret ?_ | refine W_seq_exit ?_ | refine W_ret ?_ | refine W_exit ?_ | refine W_skip ?_); simp only [go_sem, reduceCtorEq, Nat.reduceLT, Nat.reduceBEq, Nat.reduceAdd, Nat.reduceSub, Nat.reduceMul, Nat.reduceEqDiff, Nat.reduceLeDiff, Int.reduceLT, Int.reduceLE, Int.reduceNeg, h6, h8, hs.nil, hlt', (hs.get hlt').trans hx]))
    by_cases hx0 : x < 0
    · simp only [go_sem, reduceCtorEq, Nat.reduceLT, Nat.reduceBEq, Nat.reduceAdd, Nat.reduceSub, Nat.reduceMul, Nat.reduceEqDiff, Nat.reduceLeDiff, Int.reduceLT, Int.reduceLE, Int.reduceNeg, hx0]
      refine W_seq_cond _ (by simp only [go_sem, reduceCtorEq, Nat.reduceLT, Nat.reduceBEq, Nat.reduceAdd, Nat.reduceSub, Nat.reduceMul, Nat.reduceEqDiff, Nat.reduceLeDiff, Int.reduceLT, Int.reduceLE, Int.reduceNeg] <;> rfl) ?_ (by intro h; cases h)
      intro _
      repeat (first | (refine WO_id ?_; simp only [go_sem, reduceCtorEq, Nat.reduceLT, Nat.reduceBEq, Nat.reduceAdd, Nat.reduceSub, Nat.reduceMul, Nat.reduceEqDiff, Nat.reduceLeDiff, Int.reduceLT, Int.reduceLE, Int.reduceNeg]) | refine W_seq_assoc ?_ | refine W_seq_skip ?_ | refine W_seq_ops ?_ | refine W_ops ?_ | ((first | refine W_seq_ret ?_ | refine W_seq_exit ?_ | refine W_ret ?_ | refine W_exit ?_ | refine W_skip ?_); simp only [go_sem, reduceCtorEq, Nat.reduceLT, Nat.reduceBEq, Nat.reduceAdd, Nat.reduceSub, Nat.reduceMul, Nat.reduceEqDiff, Nat.reduceLeDiff, Int.reduceLT, Int.reduceLE, Int.reduceNeg]))
      rw [if_pos (by omega)] at ho
      try simp only [go_sem, reduceCtorEq, Nat.reduceLT, Nat.reduceBEq, Nat.reduceAdd, Nat.reduceSub, Nat.reduceMul, Nat.reduceEqDiff, Nat.reduceLeDiff, Int.reduceLT, Int.reduceLE, Int.reduceNeg]
      rw [← ho]
      exact ⟨H, rfl, _, rfl, rfl, rfl⟩
    · simp only [go_sem, reduceCtorEq, Nat.reduceLT, Nat.reduceBEq, Nat.reduceAdd, Nat.reduceSub, Nat.reduceMul, Nat.reduceEqDiff, Nat.reduceLeDiff, Int.reduceLT, Int.reduceLE, Int.reduceNeg, hx0]
      refine W_seq_cond _ (by simp only [go_sem, reduceCtorEq, Nat.reduceLT, Nat.reduceBEq, Nat.reduceAdd, Nat.reduceSub, Nat.reduceMul, Nat.reduceEqDiff, Nat.reduceLeDiff, Int.reduceLT, Int.reduceLE, Int.reduceNeg] <;> rfl) ?_ ?_
      · intro h64
        repeat (first | (refine WO_id ?_; simp only [go_sem, reduceCtorEq, Nat.reduceLT, Nat.reduceBEq, Nat.reduceAdd, Nat.reduceSub, Nat.reduceMul, Nat.reduceEqDiff, Nat.reduceLeDiff, Int.reduceLT, Int.reduceLE, Int.reduceNeg]) | refine W_seq_assoc ?_ | refine W_seq_skip ?_ | refine W_seq_ops ?_ | refine W_ops ?_ | ((first | refine W_seq_ret ?_ | refine W_seq_exit ?_ | refine W_ret ?_ | refine W_exit ?_ | refine W_skip ?_); simp only [go_sem, reduceCtorEq, Nat.reduceLT, Nat.reduceBEq, Nat.reduceAdd, Nat.reduceSub, Nat.reduceMul, Nat.reduceEqDiff, Nat.reduceLeDiff, Int.reduceLT, Int.reduceLE, Int.reduceNeg]))
        rw [if_pos (by right; simpa using h64)] at ho
        try simp only [go_sem, reduceCtorEq, Nat.reduceLT, Nat.reduceBEq, Nat.reduceAdd, Nat.reduceSub, Nat.reduceMul, Nat.reduceEqDiff, Nat.reduceLeDiff, Int.reduceLT, Int.reduceLE, Int.reduceNeg]
        rw [← ho]
        exact ⟨H, rfl, _, rfl, rfl, rfl⟩
      · intro h64
        have h64' : x < 64 := by simpa using h64
        rw [if_neg (by omega)] at ho
        have hx0' : 0 ≤ x := by omega
        repeat (first | (refine WO_id ?_; simp only [go_sem, reduceCtorEq, Nat.reduceLT, Nat.reduceBEq, Nat.reduceAdd, Nat.reduceSub, Nat.reduceMul, Nat.reduceEqDiff, Nat.reduceLeDiff, Int.reduceLT, Int.reduceLE, Int.reduceNeg, h2, h8, hx0']) | refine W_seq_assoc ?_ | refine W_seq_skip ?_ | refine W_seq_ops ?_ | refine W_ops ?_ | ((first | refine W_seq_ret ?_ | refine W_seq_exit ?_ | refine W_ret ?_ | refine W_exit ?_ | refine W_skip ?_); simp only [go_sem, reduceCtorEq, Nat.reduceLT, Nat.reduceBEq, Nat.reduceAdd, Nat.reduceSub, Nat.reduceMul, Nat.reduceEqDiff, Nat.reduceLeDiff, Int.reduceLT, Int.reduceLE, Int.reduceNeg, h2, h8, hx0']))
        rw [wrap_i64 (by omega) (by omega)]
        exact ⟨n - (i + 1), by omega, _, i + 1, _, rfl, rfl, by omega, (by simp only [go_sem, reduceCtorEq, Nat.reduceLT, Nat.reduceBEq, Nat.reduceAdd, Nat.reduceSub, Nat.reduceMul, Nat.reduceEqDiff, Nat.reduceLeDiff, Int.reduceLT, Int.reduceLE, Int.reduceNeg, h6]; try rfl), (by simp only [go_sem, reduceCtorEq, Nat.reduceLT, Nat.reduceBEq, Nat.reduceAdd, Nat.reduceSub, Nat.reduceMul, Nat.reduceEqDiff, Nat.reduceLeDiff, Int.reduceLT, Int.reduceLE, Int.reduceNeg, h7]; try rfl), (by simp only [go_sem, reduceCtorEq, Nat.reduceLT, Nat.reduceBEq, Nat.reduceAdd, Nat.reduceSub, Nat.reduceMul, Nat.reduceEqDiff, Nat.reduceLeDiff, Int.reduceLT, Int.reduceLE, Int.reduceNeg]; try rfl), (by simp only [go_sem, reduceCtorEq, Nat.reduceLT, Nat.reduceBEq, Nat.reduceAdd, Nat.reduceSub, Nat.reduceMul, Nat.reduceEqDiff, Nat.reduceLeDiff, Int.reduceLT, Int.reduceLE, Int.reduceNeg]; try rfl), (by simp only [go_sem, reduceCtorEq, Nat.reduceLT, Nat.reduceBEq, Nat.reduceAdd, Nat.reduceSub, Nat.reduceMul, Nat.reduceEqDiff, Nat.reduceLeDiff, Int.reduceLT, Int.reduceLE, Int.reduceNeg, h3]; try rfl), ho⟩
  · intro hge
    have : i = n := by simp at hge; omega
    subst this
    rw [← hl, List.drop_length, orAll] at ho
    repeat (first | (refine WO_id ?_; simp only [go_sem, reduceCtorEq, Nat.reduceLT, Nat.reduceBEq, Nat.reduceAdd, Nat.reduceSub, Nat.reduceMul, Nat.reduceEqDiff, Nat.reduceLeDiff, Int.reduceLT, Int.reduceLE, Int.reduceNeg, h2]) | refine W_seq_assoc ?_ | refine W_seq_skip ?_ | refine W_seq_ops ?_ | refine W_ops ?_ | ((first | refine W_seq_ret ?_ | refine W_seq_exit ?_ | refine W_ret ?_ | refine W_exit ?_ | refine W_skip ?_); simp only [go_sem, reduceCtorEq, Nat.reduceLT, Nat.reduceBEq, Nat.reduceAdd, Nat.reduceSub, Nat.reduceMul, Nat.reduceEqDiff, Nat.reduceLeDiff, Int.reduceLT, Int.reduceLE, Int.reduceNeg, h2]))
    repeat (first | (refine WO_id ?_; simp only [go_sem, reduceCtorEq, Nat.reduceLT, Nat.reduceBEq, Nat.reduceAdd, Nat.reduceSub, Nat.reduceMul, Nat.reduceEqDiff, Nat.reduceLeDiff, Int.reduceLT, Int.reduceLE, Int.reduceNeg, h2]) | refine W_seq_assoc ?_ | refine W_seq_skip ?_ | refine W_seq_ops ?_ | refine W_ops ?_ | ((first | refine W_seq_ret ?_ | refine W_seq_exit ?_ | refine W_ret ?_ | refine W_exit ?_ | refine W_skip ?_); simp only [go_sem, reduceCtorEq, Nat.reduceLT, Nat.reduceBEq, Nat.reduceAdd, Nat.reduceSub, Nat.reduceMul, Nat.reduceEqDiff, Nat.reduceLeDiff, Int.reduceLT, Int.reduceLE, Int.reduceNeg, h2]))
    try simp only [go_sem, reduceCtorEq, Nat.reduceLT, Nat.reduceBEq, Nat.reduceAdd, Nat.reduceSub, Nat.reduceMul, Nat.reduceEqDiff, Nat.reduceLeDiff, Int.reduceLT, Int.reduceLE, Int.reduceNeg]
    rw [← ho]
    exact ⟨H, rfl, _, rfl, rfl, rfl⟩
theorem s7 {H : Heap} {l : List Bool} (hl : l.length = 64) : WC F12 7 [.agg (l.map Cell.bool)] H fun v H2 => (∃ J, H2 = H ++ J) ∧ v = .c (.int .u64 (natOf l)) := by
  refine WC_start e7 (by simp) ?_
  repeat (first | (refine WO_id ?_; simp only [go_sem, reduceCtorEq, Nat.reduceLT, Nat.reduceBEq, Nat.reduceAdd, Nat.reduceSub, Nat.reduceMul, Nat.reduceEqDiff, Nat.reduceLeDiff, Int.reduceLT, Int.reduceLE, Int.reduceNeg]) | refine W_seq_assoc ?_ | refine W_seq_skip ?_ | refine W_seq_ops ?_ | refine W_ops ?_ | ((first | refine W_seq_ret ?_ | refine W_seq_exit ?_ | refine W_ret ?_ | refine W_exit ?_ | refine W_skip ?_); simp only [go_sem, reduceCtorEq, Nat.reduceLT, Nat.reduceBEq, Nat.reduceAdd, Nat.reduceSub, Nat.reduceMul, Nat.reduceEqDiff, Nat.reduceLeDiff, Int.reduceLT, Int.reduceLE, Int.reduceNeg]))
  generalize hB : H ++ [Blk.cells (l.map Cell.bool) false none] = HB
  have hb : HB[H.length]? = some (.cells (l.map Cell.bool) false none) := by rw [← hB]; exact get_last _
  refine W_seq (W_block (W_loop (fun m st => ∃ ρ, st = ⟨L 17 ρ, [], HB⟩ ∧ m ≤ 64 ∧ ρ 1 = .c (.ptr (some (H.length, 0))) ∧ ρ 4 = .c (.int .i64 ((m : Int) - 1)) ∧ ρ 3 = .c (.int .u64 (natOf (l.drop m)))) 64 ⟨_, rfl, Nat.le_refl _, (by simp only [go_sem, reduceCtorEq, Nat.reduceLT, Nat.reduceBEq, Nat.reduceAdd, Nat.reduceSub, Nat.reduceMul, Nat.reduceEqDiff, Nat.reduceLeDiff, Int.reduceLT, Int.reduceLE, Int.reduceNeg]; try rfl), (by simp only [go_sem, reduceCtorEq, Nat.reduceLT, Nat.reduceBEq, Nat.reduceAdd, Nat.reduceSub, Nat.reduceMul, Nat.reduceEqDiff, Nat.reduceLeDiff, Int.reduceLT, Int.reduceLE, Int.reduceNeg]; try rfl), (by simp only [go_sem, reduceCtorEq, Nat.reduceLT, Nat.reduceBEq, Nat.reduceAdd, Nat.reduceSub, Nat.reduceMul, Nat.reduceEqDiff, Nat.reduceLeDiff, Int.reduceLT, Int.reduceLE, Int.reduceNeg, List.drop_of_length_le (Nat.le_of_eq hl), natOf]; try rfl)⟩ ?_))
  rintro m st ⟨ρ, rfl, hm, h1, h4, h3⟩
  unfold b7_8
  repeat (first | (refine WO_id ?_; simp only [go_sem, reduceCtorEq, Nat.reduceLT, Nat.reduceBEq, Nat.reduceAdd, Nat.reduceSub, Nat.reduceMul, Nat.reduceEqDiff, Nat.reduceLeDiff, Int.reduceLT, Int.reduceLE, Int.reduceNeg, h4]) | refine W_seq_assoc ?_ | refine W_seq_skip ?_ | refine W_seq_ops ?_ | refine W_ops ?_ | ((first | refine W_seq_ret ?_ | refine W_seq_exit ?_ | refine W_ret ?_ | refine W_exit ?_ | refine W_skip ?_); simp only [go_sem, reduceCtorEq, Nat.reduceLT, Nat.reduceBEq, Nat.reduceAdd, Nat.reduceSub, Nat.reduceMul, Nat.reduceEqDiff, Nat.reduceLeDiff, Int.reduceLT, Int.reduceLE, Int.reduceNeg, h4]))
  refine W_seq_cond _ (by simp only [go_sem, reduceCtorEq, Nat.reduceLT, Nat.reduceBEq, Nat.reduceAdd, Nat.reduceSub, Nat.reduceMul, Nat.reduceEqDiff, Nat.reduceLeDiff, Int.reduceLT, Int.reduceLE, Int.reduceNeg] <;> rfl) ?_ ?_
  · intro hge
    have hge' : 0 < m := by simp at hge; omega
    obtain ⟨j, rfl⟩ : ∃ j, m = j + 1 := ⟨m - 1, by omega⟩
    have hj0 : (0 : Int) ≤ j := by omega
    have hj1 : (j : Int) < 64 := by omega
    have hjj : ((j + 1 : Nat) : Int) - 1 = j := by omega
    obtain ⟨b, hbe⟩ : ∃ b, b = l[j]'(by omega) := ⟨_, rfl⟩
    have hld : HB.ld (H.length, j) = some (.bool b) := by rw [ld_of hb, hbe]; simp [show j < l.length by omega]
    have hd : l.drop j = b :: l.drop (j + 1) := by rw [hbe]; exact List.drop_eq_getElem_cons (by omega)
    have hlt : natOf (l.drop j) < 2 ^ 64 := Nat.lt_of_lt_of_le (natOf_lt _) (Nat.pow_le_pow_right (by decide) (by simp; omega))
    rw [hd, natOf] at hlt
    have hw : IntKind.u64.wrap (2 * (natOf (l.drop (j + 1)) : Int)) = 2 * natOf (l.drop (j + 1)) := wrap_u64 (by omega) (by omega)
    refine W_seq_skip ?_
    refine W_seq (W_block ?_)
    repeat (first | (refine WO_id ?_; simp only [go_sem, reduceCtorEq, Nat.reduceLT, Nat.reduceBEq, Nat.reduceAdd, Nat.reduceSub, Nat.reduceMul, Nat.reduceEqDiff, Nat.reduceLeDiff, Int.reduceLT, Int.reduceLE, Int.reduceNeg, h3, h4, h1, hjj, hj0, hj1, hld]) | refine W_seq_assoc ?_ | refine W_seq_skip ?_ | refine W_seq_ops ?_ | refine W_ops ?_ | ((first | refine W_seq_ret ?_ | refine W_seq_exit ?_ | refine W_ret ?_ | refine W_exit ?_ | refine W_skip ?_); simp only [go_sem, reduceCtorEq, Nat.reduceLT, Nat.reduceBEq, Nat.reduceAdd, Nat.reduceSub, Nat.reduceMul, Nat.reduceEqDiff, Nat.reduceLeDiff, Int.reduceLT, Int.reduceLE, Int.reduceNeg, h3, h4, h1, hjj, hj0, hj1, hld]))
    rw [hw]
    have hwj : IntKind.i64.wrap ((j : Int) - 1) = j - 1 := wrap_i64 (by omega) (by omega)
    refine W_cond _ (by simp only [go_sem, reduceCtorEq, Nat.reduceLT, Nat.reduceBEq, Nat.reduceAdd, Nat.reduceSub, Nat.reduceMul, Nat.reduceEqDiff, Nat.reduceLeDiff, Int.reduceLT, Int.reduceLE, Int.reduceNeg] <;> rfl) ?_ ?_
    · intro hb1
      subst hb1
      have hw2 : IntKind.u64.wrap (2 * (natOf (l.drop (j + 1)) : Int) + 1) = ((2 * natOf (l.drop (j + 1)) + 1 : Nat) : Int) := by
        rw [wrap_u64 (by omega) (by simp at hlt; omega)]; omega
      repeat (first | (refine WO_id ?_; simp only [go_sem, reduceCtorEq, Nat.reduceLT, Nat.reduceBEq, Nat.reduceAdd, Nat.reduceSub, Nat.reduceMul, Nat.reduceEqDiff, Nat.reduceLeDiff, Int.reduceLT, Int.reduceLE, Int.reduceNeg, hw2, h4, hjj]) | refine W_seq_assoc ?_ | refine W_seq_skip ?_ | refine W_seq_ops ?_ | refine W_ops ?_ | ((first | refine W_seq_ret ?_ | refine W_seq_exit ?_ | refine W_ret ?_ | refine W_exit ?_ | refine W_skip ?_); simp only [go_sem, reduceCtorEq, Nat.reduceLT, Nat.reduceBEq, Nat.reduceAdd, Nat.reduceSub, Nat.reduceMul, Nat.reduceEqDiff, Nat.reduceLeDiff, Int.reduceLT, Int.reduceLE, Int.reduceNeg, hw2, h4, hjj]))
      try simp only [go_sem, reduceCtorEq, Nat.reduceLT, Nat.reduceBEq, Nat.reduceAdd, Nat.reduceSub, Nat.reduceMul, Nat.reduceEqDiff, Nat.reduceLeDiff, Int.reduceLT, Int.reduceLE, Int.reduceNeg]
      rw [hwj]
      exact ⟨j, by omega, _, rfl, by omega, (by simp only [go_sem, reduceCtorEq, Nat.reduceLT, Nat.reduceBEq, Nat.reduceAdd, Nat.reduceSub, Nat.reduceMul, Nat.reduceEqDiff, Nat.reduceLeDiff, Int.reduceLT, Int.reduceLE, Int.reduceNeg, h1]; try rfl), (by simp only [go_sem, reduceCtorEq, Nat.reduceLT, Nat.reduceBEq, Nat.reduceAdd, Nat.reduceSub, Nat.reduceMul, Nat.reduceEqDiff, Nat.reduceLeDiff, Int.reduceLT, Int.reduceLE, Int.reduceNeg]; try rfl), (by simp only [go_sem, reduceCtorEq, Nat.reduceLT, Nat.reduceBEq, Nat.reduceAdd, Nat.reduceSub, Nat.reduceMul, Nat.reduceEqDiff, Nat.reduceLeDiff, Int.reduceLT, Int.reduceLE, Int.reduceNeg, hd, natOf, Bool.toNat_true]; try rfl)⟩
    · intro hb1
      subst hb1
      have hw2 : (2 * (natOf (l.drop (j + 1)) : Int)) = ((2 * natOf (l.drop (j + 1)) + 0 : Nat) : Int) := by omega
      repeat (first | (refine WO_id ?_; simp only [go_sem, reduceCtorEq, Nat.reduceLT, Nat.reduceBEq, Nat.reduceAdd, Nat.reduceSub, Nat.reduceMul, Nat.reduceEqDiff, Nat.reduceLeDiff, Int.reduceLT, Int.reduceLE, Int.reduceNeg, hw2, h4, hjj]) | refine W_seq_assoc ?_ | refine W_seq_skip ?_ | refine W_seq_ops ?_ | refine W_ops ?_ | ((first | refine W_seq_ret ?_ | refine W_seq_exit ?_ | refine W_ret ?_ | refine W_exit ?_ | refine W_skip ?_); simp only [go_sem, reduceCtorEq, Nat.reduceLT, Nat.reduceBEq, Nat.reduceAdd, Nat.reduceSub, Nat.reduceMul, Nat.reduceEqDiff, Nat.reduceLeDiff, Int.reduceLT, Int.reduceLE, Int.reduceNeg, hw2, h4, hjj]))
      try simp only [go_sem, reduceCtorEq, Nat.reduceLT, Nat.reduceBEq, Nat.reduceAdd, Nat.reduceSub, Nat.reduceMul, Nat.reduceEqDiff, Nat.reduceLeDiff, Int.reduceLT, Int.reduceLE, Int.reduceNeg]
      rw [hwj]
      exact ⟨j, by omega, _, rfl, by omega, (by simp only [go_sem, reduceCtorEq, Nat.reduceLT, Nat.reduceBEq, Nat.reduceAdd, Nat.reduceSub, Nat.reduceMul, Nat.reduceEqDiff, Nat.reduceLeDiff, Int.reduceLT, Int.reduceLE, Int.reduceNeg, h1]; try rfl), (by simp only [go_sem, reduceCtorEq, Nat.reduceLT, Nat.reduceBEq, Nat.reduceAdd, Nat.reduceSub, Nat.reduceMul, Nat.reduceEqDiff, Nat.reduceLeDiff, Int.reduceLT, Int.reduceLE, Int.reduceNeg]; try rfl), (by simp only [go_sem, reduceCtorEq, Nat.reduceLT, Nat.reduceBEq, Nat.reduceAdd, Nat.reduceSub, Nat.reduceMul, Nat.reduceEqDiff, Nat.reduceLeDiff, Int.reduceLT, Int.reduceLE, Int.reduceNeg, hd, natOf, Bool.toNat_false]; try rfl)⟩
  · intro hge
    have : m = 0 := by simp at hge; omega
    subst this
    repeat (first | (refine WO_id ?_; simp only [go_sem, reduceCtorEq, Nat.reduceLT, Nat.reduceBEq, Nat.reduceAdd, Nat.reduceSub, Nat.reduceMul, Nat.reduceEqDiff, Nat.reduceLeDiff, Int.reduceLT, Int.reduceLE, Int.reduceNeg, h3]) | refine W_seq_assoc ?_ | refine W_seq_skip ?_ | refine W_seq_ops ?_ | refine W_ops ?_ | ((first | refine W_seq_ret ?_ | refine W_seq_exit ?_ | refine W_ret ?_ | refine W_exit ?_ | refine W_skip ?_); simp only [go_sem, reduceCtorEq, Nat.reduceLT, Nat.reduceBEq, Nat.reduceAdd, Nat.reduceSub, Nat.reduceMul, Nat.reduceEqDiff, Nat.reduceLeDiff, Int.reduceLT, Int.reduceLE, Int.reduceNeg, h3]))
    try simp only [go_sem, reduceCtorEq, Nat.reduceLT, Nat.reduceBEq, Nat.reduceAdd, Nat.reduceSub, Nat.reduceMul, Nat.reduceEqDiff, Nat.reduceLeDiff, Int.reduceLT, Int.reduceLE, Int.reduceNeg]
    exact ⟨HB, rfl, _, rfl, ⟨_, hB.symm⟩, rfl⟩

theorem s5 {H : Heap} {a : Option Ad} {n c : Nat} {o : Bool} {xs : List Int} (hs : Sl H 1 a n (xs.map (Cell.int .i64))) (hn : n < 2 ^ 63) :
    WC F12 5 [.c (.sl a n c o)] H fun v H2 => (∃ J, H2 = H ++ J) ∧ v = match orAll 0 xs with | none => .tup [.c (.int .u64 0), .c (.int .i64 120)] | some s => .tup [.c (.int .u64 s), .c (.int .i64 0)] := by
  refine WC_start e5 (by simp) ?_
  repeat (first | (refine WO_id ?_; simp only [go_sem, reduceCtorEq, Nat.reduceLT, Nat.reduceBEq, Nat.reduceAdd, Nat.reduceSub, Nat.reduceMul, Nat.reduceEqDiff, Nat.reduceLeDiff, Int.reduceLT, Int.reduceLE, Int.reduceNeg]) | refine W_seq_assoc ?_ | refine W_seq_skip ?_ | refine W_seq_ops ?_ | refine W_ops ?_ | ((first | refine W_seq_ret ?_ | refine W_seq_exit ?_ | refine W_ret ?_ | refine W_exit ?_ | refine W_skip ?_); simp only [go_sem, reduceCtorEq, Nat.reduceLT, Nat.reduceBEq, Nat.reduceAdd, Nat.reduceSub, Nat.reduceMul, Nat.reduceEqDiff, Nat.reduceLeDiff, Int.reduceLT, Int.reduceLE, Int.reduceNeg]))
  have hl : xs.length = n := by simpa using hs.len
  have e0 : List.replicate 64 (Cell.bool false) = (List.replicate 64 false).map Cell.bool := by rw [List.map_replicate]
  rw [e0]
  refine W_seq (W_block (W_loop (fun m st => ∃ ρ i bs, st = ⟨L 31 ρ, [], H ++ [.cells (bs.map Cell.bool) false none]⟩ ∧ m = n - i ∧ i ≤ n ∧ bs.length = 64 ∧ ρ 0 = .c (.sl a n c o) ∧ ρ 4 = .c (.ptr (some (H.length, 0))) ∧ ρ 5 = .c (.int .i64 (i : Nat)) ∧ ρ 2 = .c (.int .u64 0) ∧ ρ 3 = .c (.int .i64 0) ∧ orAll (natOf bs) (xs.drop i) = orAll 0 xs) n ⟨_, 0, List.replicate 64 false, rfl, rfl, Nat.zero_le _, rfl, (by simp only [go_sem, reduceCtorEq, Nat.reduceLT, Nat.reduceBEq, Nat.reduceAdd, Nat.reduceSub, Nat.reduceMul, Nat.reduceEqDiff, Nat.reduceLeDiff, Int.reduceLT, Int.reduceLE, Int.reduceNeg, Env.of, List.getElem?_cons_zero, Option.getD_some]; try rfl), (by simp only [go_sem, reduceCtorEq, Nat.reduceLT, Nat.reduceBEq, Nat.reduceAdd, Nat.reduceSub, Nat.reduceMul, Nat.reduceEqDiff, Nat.reduceLeDiff, Int.reduceLT, Int.reduceLE, Int.reduceNeg]; try rfl), (by simp only [go_sem, reduceCtorEq, Nat.reduceLT, Nat.reduceBEq, Nat.reduceAdd, Nat.reduceSub, Nat.reduceMul, Nat.reduceEqDiff, Nat.reduceLeDiff, Int.reduceLT, Int.reduceLE, Int.reduceNeg]; try rfl), (by simp only [go_sem, reduceCtorEq, Nat.reduceLT, Nat.reduceBEq, Nat.reduceAdd, Nat.reduceSub, Nat.reduceMul, Nat.reduceEqDiff, Nat.reduceLeDiff, Int.reduceLT, Int.reduceLE, Int.reduceNeg]; try rfl), (by simp only [go_sem, reduceCtorEq, Nat.reduceLT, Nat.reduceBEq, Nat.reduceAdd, Nat.reduceSub, Nat.reduceMul, Nat.reduceEqDiff, Nat.reduceLeDiff, Int.reduceLT, Int.reduceLE, Int.reduceNeg]; try rfl), by rw [natOf_false]; rfl⟩ ?_))
  rintro m st ⟨ρ, i, bs, rfl, rfl, hi, hbl, h0, h4, h5, h2, h3, ho⟩
  unfold b5_8
  repeat (first | (refine WO_id ?_; simp only [go_sem, reduceCtorEq, Nat.reduceLT, Nat.reduceBEq, Nat.reduceAdd, Nat.reduceSub, Nat.reduceMul, Nat.reduceEqDiff, Nat.reduceLeDiff, Int.reduceLT, Int.reduceLE, Int.reduceNeg, h0, h5]) | refine W_seq_assoc ?_ | refine W_seq_skip ?_ | refine W_seq_ops ?_ | refine W_ops ?_ | ((first | refine W_seq_ret ?_ | refine W_seq_exit ?_ | refine W_ret ?_ | refine W_exit ?_ | refine W_skip ?_); simp only [go_sem, reduceCtorEq, Nat.reduceLT, Nat.reduceBEq, Nat.reduceAdd, Nat.reduceSub, Nat.reduceMul, Nat.reduceEqDiff, Nat.reduceLeDiff, Int.reduceLT, Int.reduceLE, Int.reduceNeg, h0, h5]))
  refine W_seq_cond _ (by simp only [go_sem, reduceCtorEq, Nat.reduceLT, Nat.reduceBEq, Nat.reduceAdd, Nat.reduceSub, Nat.reduceMul, Nat.reduceEqDiff, Nat.reduceLeDiff, Int.reduceLT, Int.reduceLE, Int.reduceNeg] <;> rfl) ?_ ?_
  · intro hlt
    have hlt' : i < n := by simpa using hlt
    have hs' := hs.app [.cells (bs.map Cell.bool) false none]
    have hb : (H ++ [.cells (bs.map Cell.bool) false none])[H.length]? = some (.cells (bs.map Cell.bool) false none) := get_last _
    have hst := fun x hx => st_one hb (Cell.bool true) (o := x) hx
    generalize hHB : H ++ [.cells (bs.map Cell.bool) false none] = HB at hs' hb hst
    have hx : (xs.map (Cell.int .i64))[i]? = some (.int .i64 (xs[i]'(by omega))) := by simp [hl, hlt']
    obtain ⟨x, hxe⟩ : ∃ x, x = xs[i]'(by omega) := ⟨_, rfl⟩
    rw [← hxe] at hx
    have hd : xs.drop i = x :: xs.drop (i + 1) := by rw [hxe]; exact List.drop_eq_getElem_cons (by omega)
    rw [hd, orAll] at ho
    have hld := (hs'.get hlt').trans hx
    refine W_seq_skip ?_
    refine W_seq (W_block ?_)
    repeat (first | (refine WO_id ?_; simp only [go_sem, reduceCtorEq, Nat.reduceLT, Nat.reduceBEq, Nat.reduceAdd, Nat.reduceSub, Nat.reduceMul, Nat.reduceEqDiff, Nat.reduceLeDiff, Int.reduceLT, Int.reduceLE, Int.reduceNeg, h0, h5, hs.nil, hlt', hld]) | refine W_seq_assoc ?_ | refine W_seq_skip ?_ | refine W_seq_ops ?_ | refine W_ops ?_ | ((first | refine W_seq_ret ?_ | refine W_seq_exit ?_ | refine W_ret ?_ | refine W_exit ?_ | refine W_skip ?_); simp only [go_sem, reduceCtorEq, Nat.reduceLT, Nat.reduceBEq, Nat.reduceAdd, Nat.reduceSub, Nat.reduceMul, Nat.reduceEqDiff, Nat.reduceLeDiff, Int.reduceLT, Int.reduceLE, Int.reduceNeg, h0, h5, hs.nil, hlt', hld]))
    by_cases hx0 : x < 0
    · simp only [go_sem, reduceCtorEq, Nat.reduceLT, Nat.reduceBEq, Nat.reduceAdd, Nat.reduceSub, Nat.reduceMul, Nat.reduceEqDiff, Nat.reduceLeDiff, Int.reduceLT, Int.reduceLE, Int.reduceNeg, hx0]
      refine W_seq_cond _ (by simp only [go_sem, reduceCtorEq, Nat.reduceLT, Nat.reduceBEq, Nat.reduceAdd, Nat.reduceSub, Nat.reduceMul, Nat.reduceEqDiff, Nat.reduceLeDiff, Int.reduceLT, Int.reduceLE, Int.reduceNeg] <;> rfl) ?_ (by intro h; cases h)
      intro _
      repeat (first | (refine WO_id ?_; simp only [go_sem, reduceCtorEq, Nat.reduceLT, Nat.reduceBEq, Nat.reduceAdd, Nat.reduceSub, Nat.reduceMul, Nat.reduceEqDiff, Nat.reduceLeDiff, Int.reduceLT, Int.reduceLE, Int.reduceNeg]) | refine W_seq_assoc ?_ | refine W_seq_skip ?_ | refine W_seq_ops ?_ | refine W_ops ?_ | ((first | refine W_seq_ret ?_ | refine W_seq_exit ?_ | refine W_ret ?_ | refine W_exit ?_ | refine W_skip ?_); simp only [go_sem, reduceCtorEq, Nat.reduceLT, Nat.reduceBEq, Nat.reduceAdd, Nat.reduceSub, Nat.reduceMul, Nat.reduceEqDiff, Nat.reduceLeDiff, Int.reduceLT, Int.reduceLE, Int.reduceNeg]))
      rw [if_pos (by omega)] at ho
      try simp only [go_sem, reduceCtorEq, Nat.reduceLT, Nat.reduceBEq, Nat.reduceAdd, Nat.reduceSub, Nat.reduceMul, Nat.reduceEqDiff, Nat.reduceLeDiff, Int.reduceLT, Int.reduceLE, Int.reduceNeg]
      rw [← ho]
      exact ⟨HB, rfl, _, rfl, ⟨_, hHB.symm⟩, rfl⟩
    · simp only [go_sem, reduceCtorEq, Nat.reduceLT, Nat.reduceBEq, Nat.reduceAdd, Nat.reduceSub, Nat.reduceMul, Nat.reduceEqDiff, Nat.reduceLeDiff, Int.reduceLT, Int.reduceLE, Int.reduceNeg, hx0, h0, h5, hs.nil, hlt', hld]
      refine W_seq_cond _ (by simp only [go_sem, reduceCtorEq, Nat.reduceLT, Nat.reduceBEq, Nat.reduceAdd, Nat.reduceSub, Nat.reduceMul, Nat.reduceEqDiff, Nat.reduceLeDiff, Int.reduceLT, Int.reduceLE, Int.reduceNeg] <;> rfl) ?_ ?_
      · intro h64
        repeat (first | (refine WO_id ?_; simp only [go_sem, reduceCtorEq, Nat.reduceLT, Nat.reduceBEq, Nat.reduceAdd, Nat.reduceSub, Nat.reduceMul, Nat.reduceEqDiff, Nat.reduceLeDiff, Int.reduceLT, Int.reduceLE, Int.reduceNeg]) | refine W_seq_assoc ?_ | refine W_seq_skip ?_ | refine W_seq_ops ?_ | refine W_ops ?_ | ((first | refine W_seq_ret ?_ | refine W_seq_exit ?_ | refine W_ret ?_ | refine W_exit ?_ | refine W_skip ?_); simp only [go_sem, reduceCtorEq, Nat.reduceLT, Nat.reduceBEq, Nat.reduceAdd, Nat.reduceSub, Nat.reduceMul, Nat.reduceEqDiff, Nat.reduceLeDiff, Int.reduceLT, Int.reduceLE, Int.reduceNeg]))
        rw [if_pos (by right; simpa using h64)] at ho
        try simp only [go_sem, reduceCtorEq, Nat.reduceLT, Nat.reduceBEq, Nat.reduceAdd, Nat.reduceSub, Nat.reduceMul, Nat.reduceEqDiff, Nat.reduceLeDiff, Int.reduceLT, Int.reduceLE, Int.reduceNeg]
        rw [← ho]
        exact ⟨HB, rfl, _, rfl, ⟨_, hHB.symm⟩, rfl⟩
      · intro h64
        have h64' : x < 64 := by simpa using h64
        rw [if_neg (by omega)] at ho
        have hx0' : 0 ≤ x := by omega
        have h64n : x < ((64 : Nat) : Int) := by omega
        have hst' := hst x.toNat (by simp [hbl]; omega)
        repeat (first | (refine WO_id ?_; simp only [go_sem, reduceCtorEq, Nat.reduceLT, Nat.reduceBEq, Nat.reduceAdd, Nat.reduceSub, Nat.reduceMul, Nat.reduceEqDiff, Nat.reduceLeDiff, Int.reduceLT, Int.reduceLE, Int.reduceNeg, h0, h5, hs.nil, hlt', hld, h4, hx0', h64', hst']) | refine W_seq_assoc ?_ | refine W_seq_skip ?_ | refine W_seq_ops ?_ | refine W_ops ?_ | ((first | refine W_seq_ret ?_ | refine W_seq_exit ?_ | refine W_ret ?_ | refine W_exit ?_ | refine W_skip ?_); simp only [go_sem, reduceCtorEq, Nat.reduceLT, Nat.reduceBEq, Nat.reduceAdd, Nat.reduceSub, Nat.reduceMul, Nat.reduceEqDiff, Nat.reduceLeDiff, Int.reduceLT, Int.reduceLE, Int.reduceNeg, h0, h5, hs.nil, hlt', hld, h4, hx0', h64', hst']))
        try simp only [go_sem, reduceCtorEq, Nat.reduceLT, Nat.reduceBEq, Nat.reduceAdd, Nat.reduceSub, Nat.reduceMul, Nat.reduceEqDiff, Nat.reduceLeDiff, Int.reduceLT, Int.reduceLE, Int.reduceNeg]
        rw [wrap_i64 (by omega) (by omega), ← hHB, set_last, ← List.map_set]
        exact ⟨n - (i + 1), by omega, _, i + 1, bs.set x.toNat true, rfl, rfl, by omega, by simpa using hbl, (by simp only [go_sem, reduceCtorEq, Nat.reduceLT, Nat.reduceBEq, Nat.reduceAdd, Nat.reduceSub, Nat.reduceMul, Nat.reduceEqDiff, Nat.reduceLeDiff, Int.reduceLT, Int.reduceLE, Int.reduceNeg, h0]; try rfl), (by simp only [go_sem, reduceCtorEq, Nat.reduceLT, Nat.reduceBEq, Nat.reduceAdd, Nat.reduceSub, Nat.reduceMul, Nat.reduceEqDiff, Nat.reduceLeDiff, Int.reduceLT, Int.reduceLE, Int.reduceNeg, h4]; try rfl), (by simp only [go_sem, reduceCtorEq, Nat.reduceLT, Nat.reduceBEq, Nat.reduceAdd, Nat.reduceSub, Nat.reduceMul, Nat.reduceEqDiff, Nat.reduceLeDiff, Int.reduceLT, Int.reduceLE, Int.reduceNeg]; try rfl), (by simp only [go_sem, reduceCtorEq, Nat.reduceLT, Nat.reduceBEq, Nat.reduceAdd, Nat.reduceSub, Nat.reduceMul, Nat.reduceEqDiff, Nat.reduceLeDiff, Int.reduceLT, Int.reduceLE, Int.reduceNeg, h2]; try rfl), (by simp only [go_sem, reduceCtorEq, Nat.reduceLT, Nat.reduceBEq, Nat.reduceAdd, Nat.reduceSub, Nat.reduceMul, Nat.reduceEqDiff, Nat.reduceLeDiff, Int.reduceLT, Int.reduceLE, Int.reduceNeg, h3]; try rfl), by rw [← orAll_set hbl hx0' h64']; exact ho⟩
  · intro hge
    have : i = n := by simp at hge; omega
    subst this
    rw [← hl, List.drop_length, orAll] at ho
    have hb : (H ++ [.cells (bs.map Cell.bool) false none])[H.length]? = some (.cells (bs.map Cell.bool) false none) := get_last _
    have hrd := ldn_all hb
    rw [List.length_map, hbl] at hrd
    generalize hHB : H ++ [.cells (bs.map Cell.bool) false none] = HB at hb hrd
    repeat (first | (refine WO_id ?_; simp only [go_sem, reduceCtorEq, Nat.reduceLT, Nat.reduceBEq, Nat.reduceAdd, Nat.reduceSub, Nat.reduceMul, Nat.reduceEqDiff, Nat.reduceLeDiff, Int.reduceLT, Int.reduceLE, Int.reduceNeg, h4, hrd]) | refine W_seq_assoc ?_ | refine W_seq_skip ?_ | refine W_seq_ops ?_ | refine W_ops ?_ | ((first | refine W_seq_ret ?_ | refine W_seq_exit ?_ | refine W_ret ?_ | refine W_exit ?_ | refine W_skip ?_); simp only [go_sem, reduceCtorEq, Nat.reduceLT, Nat.reduceBEq, Nat.reduceAdd, Nat.reduceSub, Nat.reduceMul, Nat.reduceEqDiff, Nat.reduceLeDiff, Int.reduceLT, Int.reduceLE, Int.reduceNeg, h4, hrd]))
    refine WO_call rfl ?_
    simp only [go_sem, reduceCtorEq, Nat.reduceLT, Nat.reduceBEq, Nat.reduceAdd, Nat.reduceSub, Nat.reduceMul, Nat.reduceEqDiff, Nat.reduceLeDiff, Int.reduceLT, Int.reduceLE, Int.reduceNeg]
    refine (s7 hbl).mono ?_
    rintro v H2 ⟨⟨J, rfl⟩, rfl⟩
    repeat (first | (refine WO_id ?_; simp only [go_sem, reduceCtorEq, Nat.reduceLT, Nat.reduceBEq, Nat.reduceAdd, Nat.reduceSub, Nat.reduceMul, Nat.reduceEqDiff, Nat.reduceLeDiff, Int.reduceLT, Int.reduceLE, Int.reduceNeg]) | refine W_seq_assoc ?_ | refine W_seq_skip ?_ | refine W_seq_ops ?_ | refine W_ops ?_ | ((first | refine W_seq_ret ?_ | refine W_seq_exit ?_ | refine W_ret ?_ | refine W_exit ?_ | refine W_skip ?_); simp only [go_sem, reduceCtorEq, Nat.reduceLT, Nat.reduceBEq, Nat.reduceAdd, Nat.reduceSub, Nat.reduceMul, Nat.reduceEqDiff, Nat.reduceLeDiff, Int.reduceLT, Int.reduceLE, Int.reduceNeg]))
    try simp only [go_sem, reduceCtorEq, Nat.reduceLT, Nat.reduceBEq, Nat.reduceAdd, Nat.reduceSub, Nat.reduceMul, Nat.reduceEqDiff, Nat.reduceLeDiff, Int.reduceLT, Int.reduceLE, Int.reduceNeg]
    rw [← ho]
    exact ⟨_, rfl, _, rfl, ⟨_, by rw [← hHB, List.append_assoc]⟩, rfl⟩

theorem s6 {H : Heap} {a b : Option Ad} {n c k d : Nat} {o p : Bool} {xs ys : List Int} (hs : Sl H 1 a n (xs.map (Cell.int .i64))) (ht : Sl H 1 b k (ys.map (Cell.int .i64))) (hn : n < 2 ^ 63) :
    WC F12 6 [.c (.sl a n c o), .c (.sl b k d p)] H fun v H2 => H2 = H ∧ v = .c (.bool (decide (xs = ys))) := by
  have hl : xs.length = n := by simpa using hs.len
  have hm : ys.length = k := by simpa using ht.len
  refine WC_start e6 (by simp) ?_
  repeat (first | (refine WO_id ?_; simp only [go_sem, reduceCtorEq, Nat.reduceLT, Nat.reduceBEq, Nat.reduceAdd, Nat.reduceSub, Nat.reduceMul, Nat.reduceEqDiff, Nat.reduceLeDiff, Int.reduceLT, Int.reduceLE, Int.reduceNeg]) | refine W_seq_assoc ?_ | refine W_seq_skip ?_ | refine W_seq_ops ?_ | refine W_ops ?_ | ((first | refine W_seq_ret ?_ | refine W_seq_exit ?_ | refine W_ret ?_ | refine W_exit ?_ | refine W_skip ?_); simp only [go_sem, reduceCtorEq, Nat.reduceLT, Nat.reduceBEq, Nat.reduceAdd, Nat.reduceSub, Nat.reduceMul, Nat.reduceEqDiff, Nat.reduceLeDiff, Int.reduceLT, Int.reduceLE, Int.reduceNeg]))
  refine W_seq_cond _ (by simp only [go_sem, reduceCtorEq, Nat.reduceLT, Nat.reduceBEq, Nat.reduceAdd, Nat.reduceSub, Nat.reduceMul, Nat.reduceEqDiff, Nat.reduceLeDiff, Int.reduceLT, Int.reduceLE, Int.reduceNeg] <;> rfl) ?_ ?_
  · intro hne
    repeat (first | (refine WO_id ?_; simp only [go_sem, reduceCtorEq, Nat.reduceLT, Nat.reduceBEq, Nat.reduceAdd, Nat.reduceSub, Nat.reduceMul, Nat.reduceEqDiff, Nat.reduceLeDiff, Int.reduceLT, Int.reduceLE, Int.reduceNeg]) | refine W_seq_assoc ?_ | refine W_seq_skip ?_ | refine W_seq_ops ?_ | refine W_ops ?_ | ((first | refine W_seq_ret ?_ | refine W_seq_exit ?_ | refine W_ret ?_ | refine W_exit ?_ | refine W_skip ?_); simp only [go_sem, reduceCtorEq, Nat.reduceLT, Nat.reduceBEq, Nat.reduceAdd, Nat.reduceSub, Nat.reduceMul, Nat.reduceEqDiff, Nat.reduceLeDiff, Int.reduceLT, Int.reduceLE, Int.reduceNeg]))
    try simp only [go_sem, reduceCtorEq, Nat.reduceLT, Nat.reduceBEq, Nat.reduceAdd, Nat.reduceSub, Nat.reduceMul, Nat.reduceEqDiff, Nat.reduceLeDiff, Int.reduceLT, Int.reduceLE, Int.reduceNeg]
    refine ⟨H, rfl, _, rfl, rfl, ?_⟩
    have : ¬ xs = ys := by rintro rfl; simp at hne; omega
    simp [this]
  · intro heq
    have hnk : n = k := by simp at heq; omega
    subst hnk
    repeat (first | (refine WO_id ?_; simp only [go_sem, reduceCtorEq, Nat.reduceLT, Nat.reduceBEq, Nat.reduceAdd, Nat.reduceSub, Nat.reduceMul, Nat.reduceEqDiff, Nat.reduceLeDiff, Int.reduceLT, Int.reduceLE, Int.reduceNeg]) | refine W_seq_assoc ?_ | refine W_seq_skip ?_ | refine W_seq_ops ?_ | refine W_ops ?_ | ((first | refine W_seq_ret ?_ | refine W_seq_exit ?_ | refine W_ret ?_ | refine W_exit ?_ | refine W_skip ?_); simp only [go_sem, reduceCtorEq, Nat.reduceLT, Nat.reduceBEq, Nat.reduceAdd, Nat.reduceSub, Nat.reduceMul, Nat.reduceEqDiff, Nat.reduceLeDiff, Int.reduceLT, Int.reduceLE, Int.reduceNeg]))
    refine W_seq (W_block (W_loop (fun m st => ∃ ρ i, st = ⟨L 26 ρ, [], H⟩ ∧ m = n - i ∧ i ≤ n ∧ ρ 0 = .c (.sl a n c o) ∧ ρ 1 = .c (.sl b n d p) ∧ ρ 5 = .c (.int .i64 (i : Nat)) ∧ xs.take i = ys.take i) n ⟨_, 0, rfl, rfl, Nat.zero_le _, (by simp only [go_sem, reduceCtorEq, Nat.reduceLT, Nat.reduceBEq, Nat.reduceAdd, Nat.reduceSub, Nat.reduceMul, Nat.reduceEqDiff, Nat.reduceLeDiff, Int.reduceLT, Int.reduceLE, Int.reduceNeg, Env.of, List.getElem?_cons_zero, Option.getD_some]; try rfl), (by simp only [go_sem, reduceCtorEq, Nat.reduceLT, Nat.reduceBEq, Nat.reduceAdd, Nat.reduceSub, Nat.reduceMul, Nat.reduceEqDiff, Nat.reduceLeDiff, Int.reduceLT, Int.reduceLE, Int.reduceNeg, Env.of, List.getElem?_cons_zero, List.getElem?_cons_succ, Option.getD_some]; try rfl), (by simp only [go_sem, reduceCtorEq, Nat.reduceLT, Nat.reduceBEq, Nat.reduceAdd, Nat.reduceSub, Nat.reduceMul, Nat.reduceEqDiff, Nat.reduceLeDiff, Int.reduceLT, Int.reduceLE, Int.reduceNeg]; try rfl), rfl⟩ ?_))
    rintro m st ⟨ρ, i, rfl, rfl, hi, h0, h1, h5, ho⟩
    unfold b6_8
    repeat (first | (refine WO_id ?_; simp only [go_sem, reduceCtorEq, Nat.reduceLT, Nat.reduceBEq, Nat.reduceAdd, Nat.reduceSub, Nat.reduceMul, Nat.reduceEqDiff, Nat.reduceLeDiff, Int.reduceLT, Int.reduceLE, Int.reduceNeg, h0, h1, h5]) | refine W_seq_assoc ?_ | refine W_seq_skip ?_ | refine W_seq_ops ?_ | refine W_ops ?_ | ((first | refine W_seq_ret ?_ | refine W_seq_exit ?_ | refine W_ret ?_ | refine W_exit ?_ | refine W_skip ?_); simp only [go_sem, reduceCtorEq, Nat.reduceLT, Nat.reduceBEq, Nat.reduceAdd, Nat.reduceSub, Nat.reduceMul, Nat.reduceEqDiff, Nat.reduceLeDiff, Int.reduceLT, Int.reduceLE, Int.reduceNeg, h0, h1, h5]))
    refine W_seq_cond _ (by simp only [go_sem, reduceCtorEq, Nat.reduceLT, Nat.reduceBEq, Nat.reduceAdd, Nat.reduceSub, Nat.reduceMul, Nat.reduceEqDiff, Nat.reduceLeDiff, Int.reduceLT, Int.reduceLE, Int.reduceNeg] <;> rfl) ?_ ?_
    · intro hlt
      have hlt' : i < n := by simpa using hlt
      obtain ⟨x, hxe⟩ : ∃ x, x = xs[i]'(by omega) := ⟨_, rfl⟩
      obtain ⟨y, hye⟩ : ∃ y, y = ys[i]'(by omega) := ⟨_, rfl⟩
      have hx : H.ld (addA (oa a) i) = some (.int .i64 x) := (hs.get hlt').trans (by simp [hxe, hl, hlt'])
      have hy : H.ld (addA (oa b) i) = some (.int .i64 y) := (ht.get hlt').trans (by simp [hye, hm, hlt'])
      refine W_seq_skip ?_
      refine W_seq (W_block ?_)
      repeat (first | (refine WO_id ?_; simp only [go_sem, reduceCtorEq, Nat.reduceLT, Nat.reduceBEq, Nat.reduceAdd, Nat.reduceSub, Nat.reduceMul, Nat.reduceEqDiff, Nat.reduceLeDiff, Int.reduceLT, Int.reduceLE, Int.reduceNeg, h0, h1, h5, hs.nil, ht.nil, hlt', hx, hy]) | refine W_seq_assoc ?_ | refine W_seq_skip ?_ | refine W_seq_ops ?_ | refine W_ops ?_ | ((first | refine W_seq_ret ?_ | refine W_seq_exit ?_ | refine W_ret ?_ | refine W_exit ?_ | refine W_skip ?_); simp only [go_sem, reduceCtorEq, Nat.reduceLT, Nat.reduceBEq, Nat.reduceAdd, Nat.reduceSub, Nat.reduceMul, Nat.reduceEqDiff, Nat.reduceLeDiff, Int.reduceLT, Int.reduceLE, Int.reduceNeg, h0, h1, h5, hs.nil, ht.nil, hlt', hx, hy]))
      refine W_cond _ (by simp only [go_sem, reduceCtorEq, Nat.reduceLT, Nat.reduceBEq, Nat.reduceAdd, Nat.reduceSub, Nat.reduceMul, Nat.reduceEqDiff, Nat.reduceLeDiff, Int.reduceLT, Int.reduceLE, Int.reduceNeg] <;> rfl) ?_ ?_
      · intro hne
        repeat (first | (refine WO_id ?_; simp only [go_sem, reduceCtorEq, Nat.reduceLT, Nat.reduceBEq, Nat.reduceAdd, Nat.reduceSub, Nat.reduceMul, Nat.reduceEqDiff, Nat.reduceLeDiff, Int.reduceLT, Int.reduceLE, Int.reduceNeg]) | refine W_seq_assoc ?_ | refine W_seq_skip ?_ | refine W_seq_ops ?_ | refine W_ops ?_ | ((first | refine W_seq_ret ?_ | refine W_seq_exit ?_ | refine W_ret ?_ | refine W_exit ?_ | refine W_skip ?_); simp only [go_sem, reduceCtorEq, Nat.reduceLT, Nat.reduceBEq, Nat.reduceAdd, Nat.reduceSub, Nat.reduceMul, Nat.reduceEqDiff, Nat.reduceLeDiff, Int.reduceLT, Int.reduceLE, Int.reduceNeg]))
        try simp only [go_sem, reduceCtorEq, Nat.reduceLT, Nat.reduceBEq, Nat.reduceAdd, Nat.reduceSub, Nat.reduceMul, Nat.reduceEqDiff, Nat.reduceLeDiff, Int.reduceLT, Int.reduceLE, Int.reduceNeg]
        refine ⟨H, rfl, _, rfl, rfl, ?_⟩
        have : ¬ xs = ys := by rintro rfl; rw [hxe, hye] at hne; simp at hne
        simp [this]
      · intro hee
        have hxy : x = y := by simpa using hee
        repeat (first | (refine WO_id ?_; simp only [go_sem, reduceCtorEq, Nat.reduceLT, Nat.reduceBEq, Nat.reduceAdd, Nat.reduceSub, Nat.reduceMul, Nat.reduceEqDiff, Nat.reduceLeDiff, Int.reduceLT, Int.reduceLE, Int.reduceNeg, h5]) | refine W_seq_assoc ?_ | refine W_seq_skip ?_ | refine W_seq_ops ?_ | refine W_ops ?_ | ((first | refine W_seq_ret ?_ | refine W_seq_exit ?_ | refine W_ret ?_ | refine W_exit ?_ | refine W_skip ?_); simp only [go_sem, reduceCtorEq, Nat.reduceLT, Nat.reduceBEq, Nat.reduceAdd, Nat.reduceSub, Nat.reduceMul, Nat.reduceEqDiff, Nat.reduceLeDiff, Int.reduceLT, Int.reduceLE, Int.reduceNeg, h5]))
        rw [wrap_i64 (by omega) (by omega)]
        exact ⟨n - (i + 1), by omega, _, i + 1, rfl, rfl, by omega, (by simp only [go_sem, reduceCtorEq, Nat.reduceLT, Nat.reduceBEq, Nat.reduceAdd, Nat.reduceSub, Nat.reduceMul, Nat.reduceEqDiff, Nat.reduceLeDiff, Int.reduceLT, Int.reduceLE, Int.reduceNeg, h0]; try rfl), (by simp only [go_sem, reduceCtorEq, Nat.reduceLT, Nat.reduceBEq, Nat.reduceAdd, Nat.reduceSub, Nat.reduceMul, Nat.reduceEqDiff, Nat.reduceLeDiff, Int.reduceLT, Int.reduceLE, Int.reduceNeg, h1]; try rfl), (by simp only [go_sem, reduceCtorEq, Nat.reduceLT, Nat.reduceBEq, Nat.reduceAdd, Nat.reduceSub, Nat.reduceMul, Nat.reduceEqDiff, Nat.reduceLeDiff, Int.reduceLT, Int.reduceLE, Int.reduceNeg]; try rfl), by rw [List.take_succ_eq_append_getElem (by omega), List.take_succ_eq_append_getElem (by omega), ho, ← hxe, ← hye, hxy]⟩
    · intro hge
      have : i = n := by simp at hge; omega
      subst this
      repeat (first | (refine WO_id ?_; simp only [go_sem, reduceCtorEq, Nat.reduceLT, Nat.reduceBEq, Nat.reduceAdd, Nat.reduceSub, Nat.reduceMul, Nat.reduceEqDiff, Nat.reduceLeDiff, Int.reduceLT, Int.reduceLE, Int.reduceNeg]) | refine W_seq_assoc ?_ | refine W_seq_skip ?_ | refine W_seq_ops ?_ | refine W_ops ?_ | ((first | refine W_seq_ret ?_ | refine W_seq_exit ?_ | refine W_ret ?_ | refine W_exit ?_ | refine W_skip ?_); simp only [go_sem, reduceCtorEq, Nat.reduceLT, Nat.reduceBEq, Nat.reduceAdd, Nat.reduceSub, Nat.reduceMul, Nat.reduceEqDiff, Nat.reduceLeDiff, Int.reduceLT, Int.reduceLE, Int.reduceNeg]))
      try simp only [go_sem, reduceCtorEq, Nat.reduceLT, Nat.reduceBEq, Nat.reduceAdd, Nat.reduceSub, Nat.reduceMul, Nat.reduceEqDiff, Nat.reduceLeDiff, Int.reduceLT, Int.reduceLE, Int.reduceNeg]
      refine ⟨H, rfl, _, rfl, rfl, ?_⟩
      rw [← hl, List.take_length, hl, ← hm, List.take_length] at ho
      simp [ho]

theorem s3 {H : Heap} {a : Option Ad} {n c : Nat} {o : Bool} {xs : List Int} (hs : Sl H 1 a n (xs.map (Cell.int .i64))) (hn : n < 2 ^ 63) :
    WC F12 3 [.c (.sl a n c o)] H fun v _ => v = .c (.bool true) := by
  refine WC_start e3 (by simp) ?_
  repeat (first | (refine WO_id ?_; simp only [go_sem, reduceCtorEq, Nat.reduceLT, Nat.reduceBEq, Nat.reduceAdd, Nat.reduceSub, Nat.reduceMul, Nat.reduceEqDiff, Nat.reduceLeDiff, Int.reduceLT, Int.reduceLE, Int.reduceNeg]) | refine W_seq_assoc ?_ | refine W_seq_skip ?_ | refine W_seq_ops ?_ | refine W_ops ?_ | ((first | refine W_seq_ret ?_ | refine W_seq_exit ?_ | refine W_ret ?_ | refine W_exit ?_ | refine W_skip ?_); simp only [go_sem, reduceCtorEq, Nat.reduceLT, Nat.reduceBEq, Nat.reduceAdd, Nat.reduceSub, Nat.reduceMul, Nat.reduceEqDiff, Nat.reduceLeDiff, Int.reduceLT, Int.reduceLE, Int.reduceNeg]))
  refine W_seq_cond _ (by simp only [go_sem, reduceCtorEq, Nat.reduceLT, Nat.reduceBEq, Nat.reduceAdd, Nat.reduceSub, Nat.reduceMul, Nat.reduceEqDiff, Nat.reduceLeDiff, Int.reduceLT, Int.reduceLE, Int.reduceNeg] <;> rfl) ?_ ?_
  · intro _
    repeat (first | (refine WO_id ?_; simp only [go_sem, reduceCtorEq, Nat.reduceLT, Nat.reduceBEq, Nat.reduceAdd, Nat.reduceSub, Nat.reduceMul, Nat.reduceEqDiff, Nat.reduceLeDiff, Int.reduceLT, Int.reduceLE, Int.reduceNeg]) | refine W_seq_assoc ?_ | refine W_seq_skip ?_ | refine W_seq_ops ?_ | refine W_ops ?_ | ((first | refine W_seq_ret ?_ | refine W_seq_exit ?_ | refine W_ret ?_ | refine W_exit ?_ | refine W_skip ?_); simp only [go_sem, reduceCtorEq, Nat.reduceLT, Nat.reduceBEq, Nat.reduceAdd, Nat.reduceSub, Nat.reduceMul, Nat.reduceEqDiff, Nat.reduceLeDiff, Int.reduceLT, Int.reduceLE, Int.reduceNeg]))
    try simp only [go_sem, reduceCtorEq, Nat.reduceLT, Nat.reduceBEq, Nat.reduceAdd, Nat.reduceSub, Nat.reduceMul, Nat.reduceEqDiff, Nat.reduceLeDiff, Int.reduceLT, Int.reduceLE, Int.reduceNeg]
    exact ⟨H, rfl, _, rfl, rfl⟩
  · intro hle
    have hn' : n ≤ 1000 := by simp at hle; omega
    repeat (first | (refine WO_id ?_; simp only [go_sem, reduceCtorEq, Nat.reduceLT, Nat.reduceBEq, Nat.reduceAdd, Nat.reduceSub, Nat.reduceMul, Nat.reduceEqDiff, Nat.reduceLeDiff, Int.reduceLT, Int.reduceLE, Int.reduceNeg]) | refine W_seq_assoc ?_ | refine W_seq_skip ?_ | refine W_seq_ops ?_ | refine W_ops ?_ | ((first | refine W_seq_ret ?_ | refine W_seq_exit ?_ | refine W_ret ?_ | refine W_exit ?_ | refine W_skip ?_); simp only [go_sem, reduceCtorEq, Nat.reduceLT, Nat.reduceBEq, Nat.reduceAdd, Nat.reduceSub, Nat.reduceMul, Nat.reduceEqDiff, Nat.reduceLeDiff, Int.reduceLT, Int.reduceLE, Int.reduceNeg]))
    refine WO_app (by simp only [go_sem, reduceCtorEq, Nat.reduceLT, Nat.reduceBEq, Nat.reduceAdd, Nat.reduceSub, Nat.reduceMul, Nat.reduceEqDiff, Nat.reduceLeDiff, Int.reduceLT, Int.reduceLE, Int.reduceNeg] <;> rfl) (by simp only [go_sem, reduceCtorEq, Nat.reduceLT, Nat.reduceBEq, Nat.reduceAdd, Nat.reduceSub, Nat.reduceMul, Nat.reduceEqDiff, Nat.reduceLeDiff, Int.reduceLT, Int.reduceLE, Int.reduceNeg] <;> rfl) (Own.none _ _) hs (by simp [most]; omega) ?_
    intro a1 c1 o1 H1 ho1 hg1 hf1
    simp only [go_sem, reduceCtorEq, Nat.reduceLT, Nat.reduceBEq, Nat.reduceAdd, Nat.reduceSub, Nat.reduceMul, Nat.reduceEqDiff, Nat.reduceLeDiff, Int.reduceLT, Int.reduceLE, Int.reduceNeg]
    rw [Nat.zero_add, List.nil_append] at ho1
    have hb1 : (H1 ++ [Blk.cells [Cell.int IntKind.i64 77] false none])[H1.length]? = some (.cells [Cell.int .i64 77] false none) := get_last _
    have ho1' : Own (H1 ++ [Blk.cells [Cell.int IntKind.i64 77] false none]) 1 a1 n c1 o1 (xs.map (Cell.int .i64)) := ho1.keep fun b x e => get_app _ (ho1.lt e)
    have hs1 : Sl (H1 ++ [Blk.cells [Cell.int IntKind.i64 77] false none]) 1 a n (xs.map (Cell.int .i64)) := hs.keep fun b x e => by
      have := hs.lt e
      rw [get_app _ (by have := hg1.1; omega)]
      exact hg1.2 b this (by simp)
    have hl1 : (H1 ++ [Blk.cells [Cell.int IntKind.i64 77] false none]).length = H1.length + 1 := by simp
    have hne : ∀ b x, a = some (b, x) → ∀ a', a1 = some a' → b ≠ a'.1 := by
      intro b x e a' e'
      have := hs.lt e
      rcases hf1 with h | ⟨b', h, hh⟩
      · rw [h] at e'; cases e'
      · rw [h] at e'; cases e'; simp; omega
    generalize H1 ++ [Blk.cells [Cell.int IntKind.i64 77] false none] = HB at *
    refine WO_app (by simp only [go_sem, reduceCtorEq, Nat.reduceLT, Nat.reduceBEq, Nat.reduceAdd, Nat.reduceSub, Nat.reduceMul, Nat.reduceEqDiff, Nat.reduceLeDiff, Int.reduceLT, Int.reduceLE, Int.reduceNeg] <;> rfl) (by simp only [go_sem, reduceCtorEq, Nat.reduceLT, Nat.reduceBEq, Nat.reduceAdd, Nat.reduceSub, Nat.reduceMul, Nat.reduceEqDiff, Nat.reduceLeDiff, Int.reduceLT, Int.reduceLE, Int.reduceNeg] <;> rfl) ho1' (Sl.whole hb1) (by simp [most]; omega) ?_
    intro a2 c2 o2 H2 ho2 hg2 hf2
    simp only [List.length_cons, List.length_nil, Nat.zero_add] at ho2
    have hs2 : Sl H2 1 a n (xs.map (Cell.int .i64)) := hs1.keep fun b x e => hg2.2 b (hs1.lt e) (hne b x e)
    have hc2 := ho2.le
    subst hc2
    have hfst := ho2.sl.first (k := n) (by omega)
    rw [List.take_left' (by simpa using hs.len)] at hfst
    have hnn : (n : Int) ≤ ((n + 1 : Nat) : Int) := by omega
    obtain ⟨u, e, hue⟩ : ∃ u e, (match orAll 0 xs with | none => V.tup [.c (.int .u64 0), .c (.int .i64 120)] | some s => .tup [.c (.int .u64 s), .c (.int .i64 0)]) = V.tup [.c (.int .u64 u), .c (.int .i64 e)] := by
      cases orAll 0 xs <;> exact ⟨_, _, rfl⟩
    repeat (first | (refine WO_id ?_; simp only [go_sem, reduceCtorEq, Nat.reduceLT, Nat.reduceBEq, Nat.reduceAdd, Nat.reduceSub, Nat.reduceMul, Nat.reduceEqDiff, Nat.reduceLeDiff, Int.reduceLT, Int.reduceLE, Int.reduceNeg, hnn]) | refine W_seq_assoc ?_ | refine W_seq_skip ?_ | refine W_seq_ops ?_ | refine W_ops ?_ | ((first | refine W_seq_ret ?_ | refine W_seq_exit ?_ | refine W_ret ?_ | refine W_exit ?_ | refine W_skip ?_); simp only [go_sem, reduceCtorEq, Nat.reduceLT, Nat.reduceBEq, Nat.reduceAdd, Nat.reduceSub, Nat.reduceMul, Nat.reduceEqDiff, Nat.reduceLeDiff, Int.reduceLT, Int.reduceLE, Int.reduceNeg, hnn]))
    refine WO_call rfl ?_
    simp only [go_sem, reduceCtorEq, Nat.reduceLT, Nat.reduceBEq, Nat.reduceAdd, Nat.reduceSub, Nat.reduceMul, Nat.reduceEqDiff, Nat.reduceLeDiff, Int.reduceLT, Int.reduceLE, Int.reduceNeg]
    refine (s4 hfst hn).mono ?_
    rw [hue]
    rintro v H3 ⟨rfl, rfl⟩
    repeat (first | (refine WO_id ?_; simp only [go_sem, reduceCtorEq, Nat.reduceLT, Nat.reduceBEq, Nat.reduceAdd, Nat.reduceSub, Nat.reduceMul, Nat.reduceEqDiff, Nat.reduceLeDiff, Int.reduceLT, Int.reduceLE, Int.reduceNeg]) | refine W_seq_assoc ?_ | refine W_seq_skip ?_ | refine W_seq_ops ?_ | refine W_ops ?_ | ((first | refine W_seq_ret ?_ | refine W_seq_exit ?_ | refine W_ret ?_ | refine W_exit ?_ | refine W_skip ?_); simp only [go_sem, reduceCtorEq, Nat.reduceLT, Nat.reduceBEq, Nat.reduceAdd, Nat.reduceSub, Nat.reduceMul, Nat.reduceEqDiff, Nat.reduceLeDiff, Int.reduceLT, Int.reduceLE, Int.reduceNeg]))
    refine WO_call rfl ?_
    simp only [go_sem, reduceCtorEq, Nat.reduceLT, Nat.reduceBEq, Nat.reduceAdd, Nat.reduceSub, Nat.reduceMul, Nat.reduceEqDiff, Nat.reduceLeDiff, Int.reduceLT, Int.reduceLE, Int.reduceNeg]
    refine (s5 hs2 hn).mono ?_
    rw [hue]
    rintro v _ ⟨⟨J, rfl⟩, rfl⟩
    have hs3 := hs2.app J
    have hf3 := hfst.app J
    have ho3 : H3.ld (addA (oa a2) n) = some (Cell.int .i64 77) := (ho2.sl.get (by omega)).trans (by
      have hl := hs.len
      rw [Nat.mul_one] at hl
      rw [List.getElem?_append_right (by omega), hl, Nat.sub_self]; rfl)
    have ho4 : (H3 ++ J).ld (addA (oa a2) n) = some (Cell.int .i64 77) := by
      rw [ld_app _ _, ho3]
      have hc := ho2.sl.nil
      cases e : a2 with
      | none => have := hc e; omega
      | some q => exact ho2.lt (b := q.1) (x := q.2) (by rw [e])
    repeat (first | (refine WO_id ?_; simp only [go_sem, reduceCtorEq, Nat.reduceLT, Nat.reduceBEq, Nat.reduceAdd, Nat.reduceSub, Nat.reduceMul, Nat.reduceEqDiff, Nat.reduceLeDiff, Int.reduceLT, Int.reduceLE, Int.reduceNeg, hnn]) | refine W_seq_assoc ?_ | refine W_seq_skip ?_ | refine W_seq_ops ?_ | refine W_ops ?_ | ((first | refine W_seq_ret ?_ | refine W_seq_exit ?_ | refine W_ret ?_ | refine W_exit ?_ | refine W_skip ?_); simp only [go_sem, reduceCtorEq, Nat.reduceLT, Nat.reduceBEq, Nat.reduceAdd, Nat.reduceSub, Nat.reduceMul, Nat.reduceEqDiff, Nat.reduceLeDiff, Int.reduceLT, Int.reduceLE, Int.reduceNeg, hnn]))
    refine WO_call rfl ?_
    simp only [go_sem, reduceCtorEq, Nat.reduceLT, Nat.reduceBEq, Nat.reduceAdd, Nat.reduceSub, Nat.reduceMul, Nat.reduceEqDiff, Nat.reduceLeDiff, Int.reduceLT, Int.reduceLE, Int.reduceNeg]
    refine (s6 hf3 hs3 hn).mono ?_
    rintro v H4 ⟨hH4, rfl⟩
    have hlt4 : (n : Int) < ((n + 1 : Nat) : Int) := by omega
    have hq4 : n < n + 1 := by omega
    repeat (first | (refine WO_id ?_; simp only [go_sem, reduceCtorEq, Nat.reduceLT, Nat.reduceBEq, Nat.reduceAdd, Nat.reduceSub, Nat.reduceMul, Nat.reduceEqDiff, Nat.reduceLeDiff, Int.reduceLT, Int.reduceLE, Int.reduceNeg, hnn, hH4, ho4, hlt4, hq4, ho2.sl.nil]) | refine W_seq_assoc ?_ | refine W_seq_skip ?_ | refine W_seq_ops ?_ | refine W_ops ?_ | ((first | refine W_seq_ret ?_ | refine W_seq_exit ?_ | refine W_ret ?_ | refine W_exit ?_ | refine W_skip ?_); simp only [go_sem, reduceCtorEq, Nat.reduceLT, Nat.reduceBEq, Nat.reduceAdd, Nat.reduceSub, Nat.reduceMul, Nat.reduceEqDiff, Nat.reduceLeDiff, Int.reduceLT, Int.reduceLE, Int.reduceNeg, hnn, hH4, ho4, hlt4, hq4, ho2.sl.nil]))
    try simp only [go_sem, reduceCtorEq, Nat.reduceLT, Nat.reduceBEq, Nat.reduceAdd, Nat.reduceSub, Nat.reduceMul, Nat.reduceEqDiff, Nat.reduceLeDiff, Int.reduceLT, Int.reduceLE, Int.reduceNeg]
    exact ⟨_, rfl, _, rfl, rfl⟩
end Go.Proofs.Ytnepeleepmhdaaa.AM.T12
