/- The functions of these laws as the abstract machine's code, printed by a program of this claim's. -/
import Derived.Test.YtnepeleepmhdaaaDoorA3
set_option linter.unusedVariables false
set_option linter.unusedSimpArgs false
set_option linter.unusedSectionVars false
namespace Go.Proofs.YtnepeleepmhdaaaDoor.AM.D12
open Go Go.Proofs.YtnepeleepmhdaaaDoor.AM
abbrev fn_rotalaw12_BitsHalves : Nat := 3
abbrev fn_rotalaw12_BitsTell : Nat := 4
abbrev fn_rotalaw12_BitsRanks : Nat := 5
abbrev fn_rotalaw12_BitsRuns : Nat := 6
abbrev fn_rotalaw12_BitsAll : Nat := 7
abbrev fn_rotalaw12_BitsOrder : Nat := 8
abbrev fn_rotalaw12_BitsNames : Nat := 9
abbrev fn_rotalaw12_alive : Nat := 10
abbrev fn_bits_Majority : Nat := 11
abbrev fn_bits_From : Nat := 12
abbrev fn_rotaref12_From : Nat := 13
abbrev fn_rotaref12_Members : Nat := 14
abbrev fn_bits_Members : Nat := 15
abbrev fn_bits_Runs : Nat := 16
abbrev fn_rotaref12_Ints : Nat := 17
abbrev fn_bits_Size : Nat := 18
abbrev fn_bits_Has : Nat := 19
abbrev fn_rotaref12_Majority : Nat := 20
abbrev fn_rotaref12_Spans : Nat := 21
abbrev fn_rotaref12_Runs : Nat := 22
abbrev fn_bits_Subsets : Nat := 23
abbrev fn_rotaref12_Subsets : Nat := 24
abbrev fn_bits_Rank : Nat := 25
abbrev fn_rotaref12_Rank : Nat := 26
abbrev fn_bits_Unrank : Nat := 27
abbrev fn_rotaref12_Unrank : Nat := 28
abbrev fn_bits_Next : Nat := 29
abbrev fn_rotaref12_Next : Nat := 30
abbrev fn_bits_Of : Nat := 31
abbrev fn_bits_all : Nat := 32
abbrev fn_rotaref12_Bools : Nat := 33
abbrev fn_bits_OnesCount64 : Nat := 34
abbrev fn_bits_table : Nat := 35
abbrev fn_rotaref12_Number : Nat := 36
abbrev fn_bits_all_1 : Nat := 37
abbrev fn_bits_TrailingZeros64 : Nat := 38

-- F 3 rota/rotalaw12.BitsHalves: bads 0, calls [10, 11, 11, 11, 11]
abbrev o_rotalaw12_BitsHalves_0 : List IOper := [⟨(some 6), .mv (.k (.c (.bool false))), none⟩]
abbrev o_rotalaw12_BitsHalves_1 : List IOper := [⟨(some 11), .call (.k (.c (.fn fn_rotalaw12_alive [] []))) [], none⟩,
  ⟨(some 7), .mv (.t 11), none⟩]
abbrev o_rotalaw12_BitsHalves_2 : List IOper := [⟨(some 12), .mv (.t 0), none⟩,
  ⟨(some 13), .mv (.t 2), none⟩,
  ⟨(some 14), .call (.k (.c (.fn fn_bits_Majority [] []))) [(.t 12), (.t 13)], none⟩,
  ⟨(some 15), .mv (.t 1), none⟩,
  ⟨(some 16), .mv (.t 2), none⟩,
  ⟨(some 17), .call (.k (.c (.fn fn_bits_Majority [] []))) [(.t 15), (.t 16)], none⟩,
  ⟨(some 8), .mv (.t 14), none⟩,
  ⟨(some 9), .mv (.t 17), none⟩]
abbrev o_rotalaw12_BitsHalves_3 : List IOper := [⟨(some 18), .mv (.t 0), none⟩,
  ⟨(some 19), .un .xor (.t 18), none⟩,
  ⟨(some 20), .mv (.t 2), none⟩,
  ⟨(some 21), .call (.k (.c (.fn fn_bits_Majority [] []))) [(.t 19), (.t 20)], none⟩,
  ⟨(some 10), .mv (.t 21), none⟩]
abbrev o_rotalaw12_BitsHalves_4 : List IOper := [⟨(some 22), .mv (.t 7), none⟩,
  ⟨(some 23), .mv (.t 22), none⟩,
  ⟨(some 24), .mv (.t 8), some (23, true)⟩,
  ⟨(some 25), .un .not (.t 24), some (23, true)⟩,
  ⟨(some 26), .mv (.t 25), some (23, true)⟩,
  ⟨(some 27), .mv (.t 9), some (26, false)⟩,
  ⟨(some 28), .un .not (.t 27), some (26, false)⟩,
  ⟨(some 29), .pick (.t 26) (.k (.c (.bool true))) (.t 28), some (23, true)⟩,
  ⟨(some 30), .mv (.t 29), some (23, true)⟩,
  ⟨(some 31), .mv (.t 0), some (30, false)⟩,
  ⟨(some 32), .mv (.t 1), some (30, false)⟩,
  ⟨(some 33), .bin .and (.t 31) (.t 32), some (30, false)⟩,
  ⟨(some 34), .mv (.t 2), some (30, false)⟩,
  ⟨(some 35), .bin .and (.t 33) (.t 34), some (30, false)⟩,
  ⟨(some 36), .bin .neq (.t 35) (.k (.c (.int .u64 0))), some (30, false)⟩,
  ⟨(some 37), .pick (.t 30) (.k (.c (.bool true))) (.t 36), some (23, true)⟩,
  ⟨(some 38), .pick (.t 23) (.t 37) (.k (.c (.bool false))), none⟩,
  ⟨(some 39), .mv (.t 38), none⟩,
  ⟨(some 40), .mv (.t 8), some (39, true)⟩,
  ⟨(some 41), .mv (.t 40), some (39, true)⟩,
  ⟨(some 42), .mv (.t 10), some (41, true)⟩,
  ⟨(some 43), .pick (.t 41) (.t 42) (.k (.c (.bool false))), some (39, true)⟩,
  ⟨(some 44), .un .not (.t 43), some (39, true)⟩,
  ⟨(some 45), .pick (.t 39) (.t 44) (.k (.c (.bool false))), none⟩,
  ⟨(some 46), .mv (.t 45), none⟩,
  ⟨(some 47), .mv (.t 2), some (46, true)⟩,
  ⟨(some 48), .mv (.t 2), some (46, true)⟩,
  ⟨(some 49), .call (.k (.c (.fn fn_bits_Majority [] []))) [(.t 47), (.t 48)], some (46, true)⟩,
  ⟨(some 50), .mv (.t 2), some (46, true)⟩,
  ⟨(some 51), .bin .neq (.t 50) (.k (.c (.int .u64 0))), some (46, true)⟩,
  ⟨(some 52), .eq .bool false (.t 49) (.t 51), some (46, true)⟩,
  ⟨(some 53), .pick (.t 46) (.t 52) (.k (.c (.bool false))), none⟩,
  ⟨(some 6), .mv (.t 53), none⟩]
def c_rotalaw12_BitsHalves : IC := (.seq (.ops o_rotalaw12_BitsHalves_0) (.seq (.ops o_rotalaw12_BitsHalves_1) (.seq (.ops o_rotalaw12_BitsHalves_2) (.seq (.ops o_rotalaw12_BitsHalves_3) (.seq (.ops o_rotalaw12_BitsHalves_4) .ret)))))
def i_rotalaw12_BitsHalves : IFn := ⟨54, c_rotalaw12_BitsHalves, [(6, none)]⟩

-- F 4 rota/rotalaw12.BitsTell: bads 0, calls [12, 13, 14, 15, 16, 17, 18, 19, 11, 20, 22, 21]
abbrev o_rotalaw12_BitsTell_0 : List IOper := [⟨(some 6), .mv (.k (.c (.bool false))), none⟩]
abbrev o_rotalaw12_BitsTell_1 : List IOper := [⟨(some 17), .mv (.t 0), none⟩,
  ⟨(some 18), .mv (.t 2), none⟩,
  ⟨(some 19), .call (.k (.c (.fn fn_bits_From [] []))) [(.t 17), (.t 18)], none⟩,
  ⟨(some 16), .mv (.t 19), none⟩,
  ⟨(some 20), .ext (.t 16) 0, none⟩,
  ⟨(some 21), .ext (.t 16) 1, none⟩,
  ⟨(some 7), .mv (.t 20), none⟩,
  ⟨(some 8), .mv (.t 21), none⟩]
abbrev o_rotalaw12_BitsTell_2 : List IOper := [⟨(some 23), .mv (.t 0), none⟩,
  ⟨(some 24), .mv (.t 2), none⟩,
  ⟨(some 25), .call (.k (.c (.fn fn_rotaref12_From [] []))) [(.t 23), (.t 24)], none⟩,
  ⟨(some 22), .mv (.t 25), none⟩,
  ⟨(some 26), .ext (.t 22) 0, none⟩,
  ⟨(some 27), .ext (.t 22) 1, none⟩,
  ⟨(some 9), .mv (.t 26), none⟩,
  ⟨(some 10), .mv (.t 27), none⟩]
abbrev o_rotalaw12_BitsTell_3 : List IOper := [⟨(some 11), .mv (.k (.c (.bool false))), none⟩]
abbrev o_rotalaw12_BitsTell_4 : List IOper := [⟨(some 28), .mv (.t 0), none⟩,
  ⟨(some 29), .call (.k (.c (.fn fn_rotaref12_Members [] []))) [(.t 28)], none⟩,
  ⟨(some 12), .mv (.t 29), none⟩]
abbrev o_rotalaw12_BitsTell_5 : List IOper := [⟨(some 30), .mv (.t 12), none⟩,
  ⟨(some 31), .len false (.t 30), none⟩,
  ⟨(some 32), .mv (.k (.c (.int .i64 0))), none⟩]
abbrev o_rotalaw12_BitsTell_6 : List IOper := [⟨(some 33), .bin .lss (.t 32) (.t 31), none⟩]
abbrev o_rotalaw12_BitsTell_7 : List IOper := [⟨(some 34), .mv (.t 32), none⟩,
  ⟨(some 13), .mv (.t 34), none⟩]
abbrev o_rotalaw12_BitsTell_8 : List IOper := [⟨(some 35), .mv (.t 11), none⟩,
  ⟨(some 36), .mv (.t 35), none⟩,
  ⟨(some 37), .mv (.t 12), some (36, false)⟩,
  ⟨(some 38), .mv (.t 13), some (36, false)⟩,
  ⟨(some 39), .iaS 1 (.t 37) (.t 38), some (36, false)⟩,
  ⟨(some 40), .ld none (.t 39), some (36, false)⟩,
  ⟨(some 41), .mv (.t 2), some (36, false)⟩,
  ⟨(some 42), .bin .eql (.t 40) (.t 41), some (36, false)⟩,
  ⟨(some 43), .pick (.t 36) (.k (.c (.bool true))) (.t 42), none⟩,
  ⟨(some 11), .mv (.t 43), none⟩]
abbrev o_rotalaw12_BitsTell_9 : List IOper := [⟨(some 44), .bin .add (.t 32) (.k (.c (.int .i64 1))), none⟩,
  ⟨(some 32), .mv (.t 44), none⟩]
def b_rotalaw12_BitsTell_10 : IC := (.seq (.ops o_rotalaw12_BitsTell_6) (.seq (.cond (.t 33) .skip (.exit 0)) (.seq (.block 1 (.seq (.ops o_rotalaw12_BitsTell_7) (.ops o_rotalaw12_BitsTell_8))) (.ops o_rotalaw12_BitsTell_9))))
abbrev o_rotalaw12_BitsTell_11 : List IOper := [⟨(some 45), .mv (.t 0), none⟩,
  ⟨(some 46), .call (.k (.c (.fn fn_bits_Members [] []))) [(.t 45)], none⟩,
  ⟨(some 14), .mv (.t 46), none⟩]
abbrev o_rotalaw12_BitsTell_12 : List IOper := [⟨(some 47), .mv (.t 0), none⟩,
  ⟨(some 48), .call (.k (.c (.fn fn_bits_Runs [] []))) [(.t 47)], none⟩,
  ⟨(some 15), .mv (.t 48), none⟩]
abbrev o_rotalaw12_BitsTell_13 : List IOper := [⟨(some 49), .mv (.t 7), none⟩,
  ⟨(some 50), .mv (.t 9), none⟩,
  ⟨(some 51), .bin .eql (.t 49) (.t 50), none⟩,
  ⟨(some 52), .mv (.t 51), none⟩,
  ⟨(some 53), .mv (.t 8), some (52, true)⟩,
  ⟨(some 54), .mv (.t 10), some (52, true)⟩,
  ⟨(some 55), .eq .bool false (.t 53) (.t 54), some (52, true)⟩,
  ⟨(some 56), .pick (.t 52) (.t 55) (.k (.c (.bool false))), none⟩,
  ⟨(some 57), .mv (.t 56), none⟩,
  ⟨(some 58), .mv (.t 14), some (57, true)⟩,
  ⟨(some 59), .mv (.t 12), some (57, true)⟩,
  ⟨(some 60), .call (.k (.c (.fn fn_rotaref12_Ints [] []))) [(.t 58), (.t 59)], some (57, true)⟩,
  ⟨(some 61), .pick (.t 57) (.t 60) (.k (.c (.bool false))), none⟩,
  ⟨(some 62), .mv (.t 61), none⟩,
  ⟨(some 63), .mv (.t 0), some (62, true)⟩,
  ⟨(some 64), .call (.k (.c (.fn fn_bits_Size [] []))) [(.t 63)], some (62, true)⟩,
  ⟨(some 65), .mv (.t 12), some (62, true)⟩,
  ⟨(some 66), .len false (.t 65), some (62, true)⟩,
  ⟨(some 67), .bin .eql (.t 64) (.t 66), some (62, true)⟩,
  ⟨(some 68), .pick (.t 62) (.t 67) (.k (.c (.bool false))), none⟩,
  ⟨(some 69), .mv (.t 68), none⟩,
  ⟨(some 70), .mv (.t 0), some (69, true)⟩,
  ⟨(some 71), .mv (.t 2), some (69, true)⟩,
  ⟨(some 72), .call (.k (.c (.fn fn_bits_Has [] []))) [(.t 70), (.t 71)], some (69, true)⟩,
  ⟨(some 73), .mv (.t 11), some (69, true)⟩,
  ⟨(some 74), .eq .bool false (.t 72) (.t 73), some (69, true)⟩,
  ⟨(some 75), .pick (.t 69) (.t 74) (.k (.c (.bool false))), none⟩,
  ⟨(some 76), .mv (.t 75), none⟩,
  ⟨(some 77), .mv (.t 0), some (76, true)⟩,
  ⟨(some 78), .mv (.t 1), some (76, true)⟩,
  ⟨(some 79), .call (.k (.c (.fn fn_bits_Majority [] []))) [(.t 77), (.t 78)], some (76, true)⟩,
  ⟨(some 80), .mv (.t 0), some (76, true)⟩,
  ⟨(some 81), .mv (.t 1), some (76, true)⟩,
  ⟨(some 82), .call (.k (.c (.fn fn_rotaref12_Majority [] []))) [(.t 80), (.t 81)], some (76, true)⟩,
  ⟨(some 83), .eq .bool false (.t 79) (.t 82), some (76, true)⟩,
  ⟨(some 84), .pick (.t 76) (.t 83) (.k (.c (.bool false))), none⟩,
  ⟨(some 85), .mv (.t 84), none⟩,
  ⟨(some 86), .mv (.t 15), some (85, true)⟩,
  ⟨(some 87), .mv (.t 0), some (85, true)⟩,
  ⟨(some 88), .call (.k (.c (.fn fn_rotaref12_Runs [] []))) [(.t 87)], some (85, true)⟩,
  ⟨(some 89), .call (.k (.c (.fn fn_rotaref12_Spans [] []))) [(.t 86), (.t 88)], some (85, true)⟩,
  ⟨(some 90), .pick (.t 85) (.t 89) (.k (.c (.bool false))), none⟩,
  ⟨(some 6), .mv (.t 90), none⟩]
def c_rotalaw12_BitsTell : IC := (.seq (.ops o_rotalaw12_BitsTell_0) (.seq (.ops o_rotalaw12_BitsTell_1) (.seq (.ops o_rotalaw12_BitsTell_2) (.seq (.ops o_rotalaw12_BitsTell_3) (.seq (.ops o_rotalaw12_BitsTell_4) (.seq (.seq (.ops o_rotalaw12_BitsTell_5) (.block 0 (.loop b_rotalaw12_BitsTell_10))) (.seq (.ops o_rotalaw12_BitsTell_11) (.seq (.ops o_rotalaw12_BitsTell_12) (.seq (.ops o_rotalaw12_BitsTell_13) .ret)))))))))
def i_rotalaw12_BitsTell : IFn := ⟨91, c_rotalaw12_BitsTell, [(6, none)]⟩

-- F 5 rota/rotalaw12.BitsRanks: bads 0, calls [23, 24, 25, 26, 27, 28, 29, 30]
abbrev o_rotalaw12_BitsRanks_0 : List IOper := [⟨(some 5), .box 37 (.t 2), none⟩,
  ⟨(some 6), .mv (.k (.c (.bool false))), none⟩]
abbrev o_rotalaw12_BitsRanks_1 : List IOper := [⟨(some 21), .iaA 2 1 (.t 5) (.k (.c (.int .i64 0))), none⟩,
  ⟨(some 22), .ld none (.t 21), none⟩,
  ⟨(some 23), .iaA 2 1 (.t 5) (.k (.c (.int .i64 1))), none⟩,
  ⟨(some 24), .ld none (.t 23), none⟩,
  ⟨(some 7), .mv (.t 22), none⟩,
  ⟨(some 8), .mv (.t 24), none⟩]
abbrev o_rotalaw12_BitsRanks_2 : List IOper := [⟨(some 26), .mv (.t 7), none⟩,
  ⟨(some 27), .mv (.t 8), none⟩,
  ⟨(some 28), .call (.k (.c (.fn fn_bits_Subsets [] []))) [(.t 26), (.t 27)], none⟩,
  ⟨(some 25), .mv (.t 28), none⟩,
  ⟨(some 29), .ext (.t 25) 0, none⟩,
  ⟨(some 30), .ext (.t 25) 1, none⟩,
  ⟨(some 9), .mv (.t 29), none⟩,
  ⟨(some 10), .mv (.t 30), none⟩]
abbrev o_rotalaw12_BitsRanks_3 : List IOper := [⟨(some 32), .mv (.t 7), none⟩,
  ⟨(some 33), .mv (.t 8), none⟩,
  ⟨(some 34), .call (.k (.c (.fn fn_rotaref12_Subsets [] []))) [(.t 32), (.t 33)], none⟩,
  ⟨(some 31), .mv (.t 34), none⟩,
  ⟨(some 35), .ext (.t 31) 0, none⟩,
  ⟨(some 36), .ext (.t 31) 1, none⟩,
  ⟨(some 11), .mv (.t 35), none⟩,
  ⟨(some 12), .mv (.t 36), none⟩]
abbrev o_rotalaw12_BitsRanks_4 : List IOper := [⟨(some 38), .mv (.t 0), none⟩,
  ⟨(some 39), .call (.k (.c (.fn fn_bits_Rank [] []))) [(.t 38)], none⟩,
  ⟨(some 37), .mv (.t 39), none⟩,
  ⟨(some 40), .ext (.t 37) 0, none⟩,
  ⟨(some 41), .ext (.t 37) 1, none⟩,
  ⟨(some 13), .mv (.t 40), none⟩,
  ⟨(some 14), .mv (.t 41), none⟩]
abbrev o_rotalaw12_BitsRanks_5 : List IOper := [⟨(some 43), .mv (.t 0), none⟩,
  ⟨(some 44), .call (.k (.c (.fn fn_rotaref12_Rank [] []))) [(.t 43)], none⟩,
  ⟨(some 42), .mv (.t 44), none⟩,
  ⟨(some 45), .ext (.t 42) 0, none⟩,
  ⟨(some 46), .ext (.t 42) 1, none⟩,
  ⟨(some 15), .mv (.t 45), none⟩,
  ⟨(some 16), .mv (.t 46), none⟩]
abbrev o_rotalaw12_BitsRanks_6 : List IOper := [⟨(some 47), .mv (.t 9), none⟩,
  ⟨(some 48), .mv (.t 11), none⟩,
  ⟨(some 49), .bin .neq (.t 47) (.t 48), none⟩,
  ⟨(some 50), .mv (.t 49), none⟩,
  ⟨(some 51), .mv (.t 10), some (50, false)⟩,
  ⟨(some 52), .mv (.t 12), some (50, false)⟩,
  ⟨(some 53), .bin .neq (.t 51) (.t 52), some (50, false)⟩,
  ⟨(some 54), .pick (.t 50) (.k (.c (.bool true))) (.t 53), none⟩,
  ⟨(some 55), .mv (.t 54), none⟩,
  ⟨(some 56), .mv (.t 13), some (55, false)⟩,
  ⟨(some 57), .mv (.t 15), some (55, false)⟩,
  ⟨(some 58), .bin .neq (.t 56) (.t 57), some (55, false)⟩,
  ⟨(some 59), .pick (.t 55) (.k (.c (.bool true))) (.t 58), none⟩,
  ⟨(some 60), .mv (.t 59), none⟩,
  ⟨(some 61), .mv (.t 14), some (60, false)⟩,
  ⟨(some 62), .mv (.t 16), some (60, false)⟩,
  ⟨(some 63), .bin .neq (.t 61) (.t 62), some (60, false)⟩,
  ⟨(some 64), .pick (.t 60) (.k (.c (.bool true))) (.t 63), none⟩]
abbrev o_rotalaw12_BitsRanks_7 : List IOper := [⟨(some 6), .mv (.k (.c (.bool false))), none⟩]
abbrev o_rotalaw12_BitsRanks_8 : List IOper := [⟨(some 66), .mv (.t 8), none⟩,
  ⟨(some 67), .mv (.t 1), none⟩,
  ⟨(some 68), .call (.k (.c (.fn fn_bits_Unrank [] []))) [(.t 66), (.t 67)], none⟩,
  ⟨(some 65), .mv (.t 68), none⟩,
  ⟨(some 69), .ext (.t 65) 0, none⟩,
  ⟨(some 70), .ext (.t 65) 1, none⟩,
  ⟨(some 13), .mv (.t 69), none⟩,
  ⟨(some 14), .mv (.t 70), none⟩]
abbrev o_rotalaw12_BitsRanks_9 : List IOper := [⟨(some 72), .mv (.t 8), none⟩,
  ⟨(some 73), .mv (.t 1), none⟩,
  ⟨(some 74), .call (.k (.c (.fn fn_rotaref12_Unrank [] []))) [(.t 72), (.t 73)], none⟩,
  ⟨(some 71), .mv (.t 74), none⟩,
  ⟨(some 75), .ext (.t 71) 0, none⟩,
  ⟨(some 76), .ext (.t 71) 1, none⟩,
  ⟨(some 15), .mv (.t 75), none⟩,
  ⟨(some 16), .mv (.t 76), none⟩]
abbrev o_rotalaw12_BitsRanks_10 : List IOper := [⟨(some 78), .mv (.t 0), none⟩,
  ⟨(some 79), .mv (.t 7), none⟩,
  ⟨(some 80), .call (.k (.c (.fn fn_bits_Next [] []))) [(.t 78), (.t 79)], none⟩,
  ⟨(some 77), .mv (.t 80), none⟩,
  ⟨(some 81), .ext (.t 77) 0, none⟩,
  ⟨(some 82), .ext (.t 77) 1, none⟩,
  ⟨(some 17), .mv (.t 81), none⟩,
  ⟨(some 18), .mv (.t 82), none⟩]
abbrev o_rotalaw12_BitsRanks_11 : List IOper := [⟨(some 84), .mv (.t 0), none⟩,
  ⟨(some 85), .mv (.t 7), none⟩,
  ⟨(some 86), .call (.k (.c (.fn fn_rotaref12_Next [] []))) [(.t 84), (.t 85)], none⟩,
  ⟨(some 83), .mv (.t 86), none⟩,
  ⟨(some 87), .ext (.t 83) 0, none⟩,
  ⟨(some 88), .ext (.t 83) 1, none⟩,
  ⟨(some 19), .mv (.t 87), none⟩,
  ⟨(some 20), .mv (.t 88), none⟩]
abbrev o_rotalaw12_BitsRanks_12 : List IOper := [⟨(some 89), .mv (.t 13), none⟩,
  ⟨(some 90), .mv (.t 15), none⟩,
  ⟨(some 91), .bin .eql (.t 89) (.t 90), none⟩,
  ⟨(some 92), .mv (.t 91), none⟩,
  ⟨(some 93), .mv (.t 14), some (92, true)⟩,
  ⟨(some 94), .mv (.t 16), some (92, true)⟩,
  ⟨(some 95), .bin .eql (.t 93) (.t 94), some (92, true)⟩,
  ⟨(some 96), .pick (.t 92) (.t 95) (.k (.c (.bool false))), none⟩,
  ⟨(some 97), .mv (.t 96), none⟩,
  ⟨(some 98), .mv (.t 17), some (97, true)⟩,
  ⟨(some 99), .mv (.t 19), some (97, true)⟩,
  ⟨(some 100), .bin .eql (.t 98) (.t 99), some (97, true)⟩,
  ⟨(some 101), .pick (.t 97) (.t 100) (.k (.c (.bool false))), none⟩,
  ⟨(some 102), .mv (.t 101), none⟩,
  ⟨(some 103), .mv (.t 18), some (102, true)⟩,
  ⟨(some 104), .mv (.t 20), some (102, true)⟩,
  ⟨(some 105), .eq .bool false (.t 103) (.t 104), some (102, true)⟩,
  ⟨(some 106), .pick (.t 102) (.t 105) (.k (.c (.bool false))), none⟩,
  ⟨(some 6), .mv (.t 106), none⟩]
def c_rotalaw12_BitsRanks : IC := (.seq (.ops o_rotalaw12_BitsRanks_0) (.seq (.ops o_rotalaw12_BitsRanks_1) (.seq (.ops o_rotalaw12_BitsRanks_2) (.seq (.ops o_rotalaw12_BitsRanks_3) (.seq (.ops o_rotalaw12_BitsRanks_4) (.seq (.ops o_rotalaw12_BitsRanks_5) (.seq (.seq (.ops o_rotalaw12_BitsRanks_6) (.cond (.t 64) (.seq (.ops o_rotalaw12_BitsRanks_7) .ret) .skip)) (.seq (.ops o_rotalaw12_BitsRanks_8) (.seq (.ops o_rotalaw12_BitsRanks_9) (.seq (.ops o_rotalaw12_BitsRanks_10) (.seq (.ops o_rotalaw12_BitsRanks_11) (.seq (.ops o_rotalaw12_BitsRanks_12) .ret))))))))))))
def i_rotalaw12_BitsRanks : IFn := ⟨107, c_rotalaw12_BitsRanks, [(6, none)]⟩

-- F 6 rota/rotalaw12.BitsRuns: bads 0, calls [10, 15, 31, 16, 19, 19, 19, 18]
abbrev o_rotalaw12_BitsRuns_0 : List IOper := [⟨(some 2), .mv (.k (.c (.bool false))), none⟩]
abbrev o_rotalaw12_BitsRuns_1 : List IOper := [⟨(some 11), .call (.k (.c (.fn fn_rotalaw12_alive [] []))) [], none⟩,
  ⟨(some 3), .mv (.t 11), none⟩]
abbrev o_rotalaw12_BitsRuns_2 : List IOper := [⟨(some 13), .mv (.t 0), none⟩,
  ⟨(some 14), .call (.k (.c (.fn fn_bits_Members [] []))) [(.t 13)], none⟩,
  ⟨(some 15), .call (.k (.c (.fn fn_bits_Of [] []))) [(.t 14)], none⟩,
  ⟨(some 12), .mv (.t 15), none⟩,
  ⟨(some 16), .ext (.t 12) 0, none⟩,
  ⟨(some 17), .ext (.t 12) 1, none⟩,
  ⟨(some 4), .mv (.t 16), none⟩,
  ⟨(some 5), .mv (.t 17), none⟩]
abbrev o_rotalaw12_BitsRuns_3 : List IOper := [⟨(some 6), .mv (.k (.c (.int .i64 (-1)))), none⟩]
abbrev o_rotalaw12_BitsRuns_4 : List IOper := [⟨(some 7), .mv (.k (.c (.int .i64 0))), none⟩]
abbrev o_rotalaw12_BitsRuns_5 : List IOper := [⟨(some 18), .mv (.t 0), none⟩,
  ⟨(some 19), .call (.k (.c (.fn fn_bits_Runs [] []))) [(.t 18)], none⟩,
  ⟨(some 20), .len false (.t 19), none⟩,
  ⟨(some 21), .mv (.k (.c (.int .i64 0))), none⟩]
abbrev o_rotalaw12_BitsRuns_6 : List IOper := [⟨(some 22), .bin .lss (.t 21) (.t 20), none⟩]
abbrev o_rotalaw12_BitsRuns_7 : List IOper := [⟨(some 23), .iaS 2 (.t 19) (.t 21), none⟩,
  ⟨(some 24), .ld (some 2) (.t 23), none⟩,
  ⟨(some 9), .new 52 (.agg [(.int .i64 0), (.int .i64 0)]), none⟩,
  ⟨none, .st 2 (.t 9) (.t 24), none⟩]
abbrev o_rotalaw12_BitsRuns_8 : List IOper := [⟨(some 25), .fa 0 (.t 9), none⟩,
  ⟨(some 26), .ld none (.t 25), none⟩,
  ⟨(some 27), .mv (.t 6), none⟩,
  ⟨(some 28), .bin .leq (.t 26) (.t 27), none⟩,
  ⟨(some 29), .mv (.t 28), none⟩,
  ⟨(some 30), .fa 1 (.t 9), some (29, false)⟩,
  ⟨(some 31), .ld none (.t 30), some (29, false)⟩,
  ⟨(some 32), .fa 0 (.t 9), some (29, false)⟩,
  ⟨(some 33), .ld none (.t 32), some (29, false)⟩,
  ⟨(some 34), .bin .leq (.t 31) (.t 33), some (29, false)⟩,
  ⟨(some 35), .pick (.t 29) (.k (.c (.bool true))) (.t 34), none⟩,
  ⟨(some 36), .mv (.t 35), none⟩,
  ⟨(some 37), .fa 1 (.t 9), some (36, false)⟩,
  ⟨(some 38), .ld none (.t 37), some (36, false)⟩,
  ⟨(some 39), .bin .gtr (.t 38) (.k (.c (.int .i64 64))), some (36, false)⟩,
  ⟨(some 40), .pick (.t 36) (.k (.c (.bool true))) (.t 39), none⟩,
  ⟨(some 41), .mv (.t 40), none⟩,
  ⟨(some 42), .mv (.t 0), some (41, false)⟩,
  ⟨(some 43), .fa 1 (.t 9), some (41, false)⟩,
  ⟨(some 44), .ld none (.t 43), some (41, false)⟩,
  ⟨(some 45), .call (.k (.c (.fn fn_bits_Has [] []))) [(.t 42), (.t 44)], some (41, false)⟩,
  ⟨(some 46), .pick (.t 41) (.k (.c (.bool true))) (.t 45), none⟩,
  ⟨(some 47), .mv (.t 46), none⟩,
  ⟨(some 48), .mv (.t 0), some (47, false)⟩,
  ⟨(some 49), .fa 0 (.t 9), some (47, false)⟩,
  ⟨(some 50), .ld none (.t 49), some (47, false)⟩,
  ⟨(some 51), .bin .sub (.t 50) (.k (.c (.int .i64 1))), some (47, false)⟩,
  ⟨(some 52), .call (.k (.c (.fn fn_bits_Has [] []))) [(.t 48), (.t 51)], some (47, false)⟩,
  ⟨(some 53), .pick (.t 47) (.k (.c (.bool true))) (.t 52), none⟩]
abbrev o_rotalaw12_BitsRuns_9 : List IOper := [⟨(some 2), .mv (.k (.c (.bool false))), none⟩]
abbrev o_rotalaw12_BitsRuns_10 : List IOper := [⟨(some 54), .fa 0 (.t 9), none⟩,
  ⟨(some 55), .ld none (.t 54), none⟩,
  ⟨(some 10), .mv (.t 55), none⟩]
abbrev o_rotalaw12_BitsRuns_11 : List IOper := [⟨(some 56), .mv (.t 10), none⟩,
  ⟨(some 57), .fa 1 (.t 9), none⟩,
  ⟨(some 58), .ld none (.t 57), none⟩,
  ⟨(some 59), .bin .lss (.t 56) (.t 58), none⟩]
abbrev o_rotalaw12_BitsRuns_12 : List IOper := [⟨(some 62), .mv (.t 0), none⟩,
  ⟨(some 63), .mv (.t 10), none⟩,
  ⟨(some 64), .call (.k (.c (.fn fn_bits_Has [] []))) [(.t 62), (.t 63)], none⟩,
  ⟨(some 65), .un .not (.t 64), none⟩]
abbrev o_rotalaw12_BitsRuns_13 : List IOper := [⟨(some 2), .mv (.k (.c (.bool false))), none⟩]
abbrev o_rotalaw12_BitsRuns_14 : List IOper := [⟨(some 60), .mv (.t 10), none⟩,
  ⟨(some 61), .bin .add (.t 60) (.k (.c (.int .i64 1))), none⟩,
  ⟨(some 10), .mv (.t 61), none⟩]
def b_rotalaw12_BitsRuns_15 : IC := (.seq (.seq (.ops o_rotalaw12_BitsRuns_11) (.cond (.t 59) .skip (.exit 2))) (.seq (.block 3 (.seq (.ops o_rotalaw12_BitsRuns_12) (.cond (.t 65) (.seq (.ops o_rotalaw12_BitsRuns_13) .ret) .skip))) (.ops o_rotalaw12_BitsRuns_14)))
abbrev o_rotalaw12_BitsRuns_16 : List IOper := [⟨(some 66), .mv (.t 7), none⟩,
  ⟨(some 67), .fa 1 (.t 9), none⟩,
  ⟨(some 68), .ld none (.t 67), none⟩,
  ⟨(some 69), .bin .add (.t 66) (.t 68), none⟩,
  ⟨(some 70), .fa 0 (.t 9), none⟩,
  ⟨(some 71), .ld none (.t 70), none⟩,
  ⟨(some 72), .bin .sub (.t 69) (.t 71), none⟩,
  ⟨(some 7), .mv (.t 72), none⟩]
abbrev o_rotalaw12_BitsRuns_17 : List IOper := [⟨(some 73), .fa 1 (.t 9), none⟩,
  ⟨(some 74), .ld none (.t 73), none⟩,
  ⟨(some 6), .mv (.t 74), none⟩]
abbrev o_rotalaw12_BitsRuns_18 : List IOper := [⟨(some 75), .bin .add (.t 21) (.k (.c (.int .i64 1))), none⟩,
  ⟨(some 21), .mv (.t 75), none⟩]
def b_rotalaw12_BitsRuns_19 : IC := (.seq (.ops o_rotalaw12_BitsRuns_6) (.seq (.cond (.t 22) .skip (.exit 0)) (.seq (.block 1 (.seq (.ops o_rotalaw12_BitsRuns_7) (.seq (.seq (.ops o_rotalaw12_BitsRuns_8) (.cond (.t 53) (.seq (.ops o_rotalaw12_BitsRuns_9) .ret) .skip)) (.seq (.seq (.ops o_rotalaw12_BitsRuns_10) (.block 2 (.loop b_rotalaw12_BitsRuns_15))) (.seq (.ops o_rotalaw12_BitsRuns_16) (.ops o_rotalaw12_BitsRuns_17)))))) (.ops o_rotalaw12_BitsRuns_18))))
abbrev o_rotalaw12_BitsRuns_20 : List IOper := [⟨(some 76), .mv (.t 3), none⟩,
  ⟨(some 77), .mv (.t 76), none⟩,
  ⟨(some 78), .mv (.t 5), some (77, true)⟩,
  ⟨(some 79), .bin .eql (.t 78) (.k (.c (.int .i64 0))), some (77, true)⟩,
  ⟨(some 80), .pick (.t 77) (.t 79) (.k (.c (.bool false))), none⟩,
  ⟨(some 81), .mv (.t 80), none⟩,
  ⟨(some 82), .mv (.t 4), some (81, true)⟩,
  ⟨(some 83), .mv (.t 0), some (81, true)⟩,
  ⟨(some 84), .bin .eql (.t 82) (.t 83), some (81, true)⟩,
  ⟨(some 85), .pick (.t 81) (.t 84) (.k (.c (.bool false))), none⟩,
  ⟨(some 86), .mv (.t 85), none⟩,
  ⟨(some 87), .mv (.t 7), some (86, true)⟩,
  ⟨(some 88), .mv (.t 0), some (86, true)⟩,
  ⟨(some 89), .call (.k (.c (.fn fn_bits_Size [] []))) [(.t 88)], some (86, true)⟩,
  ⟨(some 90), .bin .eql (.t 87) (.t 89), some (86, true)⟩,
  ⟨(some 91), .pick (.t 86) (.t 90) (.k (.c (.bool false))), none⟩,
  ⟨(some 2), .mv (.t 91), none⟩]
def c_rotalaw12_BitsRuns : IC := (.seq (.ops o_rotalaw12_BitsRuns_0) (.seq (.ops o_rotalaw12_BitsRuns_1) (.seq (.ops o_rotalaw12_BitsRuns_2) (.seq (.ops o_rotalaw12_BitsRuns_3) (.seq (.ops o_rotalaw12_BitsRuns_4) (.seq (.seq (.ops o_rotalaw12_BitsRuns_5) (.block 0 (.loop b_rotalaw12_BitsRuns_19))) (.seq (.ops o_rotalaw12_BitsRuns_20) .ret)))))))
def i_rotalaw12_BitsRuns : IFn := ⟨92, c_rotalaw12_BitsRuns, [(2, none)]⟩

-- F 7 rota/rotalaw12.BitsAll: bads 0, calls [10, 23, 25, 18, 29]
abbrev o_rotalaw12_BitsAll_0 : List IOper := [⟨(some 4), .mv (.k (.c (.bool false))), none⟩]
abbrev o_rotalaw12_BitsAll_1 : List IOper := [⟨(some 16), .call (.k (.c (.fn fn_rotalaw12_alive [] []))) [], none⟩,
  ⟨(some 5), .mv (.t 16), none⟩]
abbrev o_rotalaw12_BitsAll_2 : List IOper := [⟨(some 17), .mv (.t 0), none⟩,
  ⟨(some 18), .cv .i64 (.t 17), none⟩,
  ⟨(some 19), .bin .rem (.t 18) (.k (.c (.int .i64 13))), none⟩,
  ⟨(some 6), .mv (.t 19), none⟩]
abbrev o_rotalaw12_BitsAll_3 : List IOper := [⟨(some 20), .mv (.t 1), none⟩,
  ⟨(some 21), .cv .i64 (.t 20), none⟩,
  ⟨(some 22), .bin .rem (.t 21) (.k (.c (.int .i64 14))), none⟩,
  ⟨(some 7), .mv (.t 22), none⟩]
abbrev o_rotalaw12_BitsAll_4 : List IOper := [⟨(some 24), .mv (.t 6), none⟩,
  ⟨(some 25), .mv (.t 7), none⟩,
  ⟨(some 26), .call (.k (.c (.fn fn_bits_Subsets [] []))) [(.t 24), (.t 25)], none⟩,
  ⟨(some 23), .mv (.t 26), none⟩,
  ⟨(some 27), .ext (.t 23) 0, none⟩,
  ⟨(some 28), .ext (.t 23) 1, none⟩,
  ⟨(some 8), .mv (.t 27), none⟩,
  ⟨(some 9), .mv (.t 28), none⟩]
abbrev o_rotalaw12_BitsAll_5 : List IOper := [⟨(some 29), .mv (.t 9), none⟩,
  ⟨(some 30), .bin .neq (.t 29) (.k (.c (.int .i64 0))), none⟩]
abbrev o_rotalaw12_BitsAll_6 : List IOper := [⟨(some 4), .mv (.k (.c (.bool false))), none⟩]
abbrev o_rotalaw12_BitsAll_7 : List IOper := [⟨(some 31), .mv (.t 7), none⟩,
  ⟨(some 32), .mv (.t 6), none⟩,
  ⟨(some 33), .bin .gtr (.t 31) (.t 32), none⟩,
  ⟨(some 34), .mv (.t 33), none⟩,
  ⟨(some 35), .mv (.t 7), some (34, false)⟩,
  ⟨(some 36), .bin .eql (.t 35) (.k (.c (.int .i64 0))), some (34, false)⟩,
  ⟨(some 37), .pick (.t 34) (.k (.c (.bool true))) (.t 36), none⟩]
abbrev o_rotalaw12_BitsAll_8 : List IOper := [⟨(some 38), .mv (.t 5), none⟩,
  ⟨(some 39), .mv (.t 38), none⟩,
  ⟨(some 40), .mv (.t 7), some (39, true)⟩,
  ⟨(some 41), .bin .eql (.t 40) (.k (.c (.int .i64 0))), some (39, true)⟩,
  ⟨(some 42), .mv (.t 41), some (39, true)⟩,
  ⟨(some 43), .mv (.t 8), some (42, true)⟩,
  ⟨(some 44), .bin .eql (.t 43) (.k (.c (.int .u64 1))), some (42, true)⟩,
  ⟨(some 45), .pick (.t 42) (.t 44) (.k (.c (.bool false))), some (39, true)⟩,
  ⟨(some 46), .mv (.t 45), some (39, true)⟩,
  ⟨(some 47), .mv (.t 7), some (46, false)⟩,
  ⟨(some 48), .mv (.t 6), some (46, false)⟩,
  ⟨(some 49), .bin .gtr (.t 47) (.t 48), some (46, false)⟩,
  ⟨(some 50), .mv (.t 49), some (46, false)⟩,
  ⟨(some 51), .mv (.t 8), some (50, true)⟩,
  ⟨(some 52), .bin .eql (.t 51) (.k (.c (.int .u64 0))), some (50, true)⟩,
  ⟨(some 53), .pick (.t 50) (.t 52) (.k (.c (.bool false))), some (46, false)⟩,
  ⟨(some 54), .pick (.t 46) (.k (.c (.bool true))) (.t 53), some (39, true)⟩,
  ⟨(some 55), .pick (.t 39) (.t 54) (.k (.c (.bool false))), none⟩,
  ⟨(some 4), .mv (.t 55), none⟩]
abbrev o_rotalaw12_BitsAll_9 : List IOper := [⟨(some 56), .mv (.t 7), none⟩,
  ⟨(some 57), .cv .u64 (.t 56), none⟩,
  ⟨(some 58), .bin .shl (.k (.c (.int .u64 1))) (.t 57), none⟩,
  ⟨(some 59), .bin .sub (.t 58) (.k (.c (.int .u64 1))), none⟩,
  ⟨(some 10), .mv (.t 59), none⟩]
abbrev o_rotalaw12_BitsAll_10 : List IOper := [⟨(some 11), .mv (.k (.c (.int .u64 0))), none⟩]
abbrev o_rotalaw12_BitsAll_11 : List IOper := [⟨(some 60), .mv (.t 11), none⟩,
  ⟨(some 61), .mv (.t 8), none⟩,
  ⟨(some 62), .bin .lss (.t 60) (.t 61), none⟩]
abbrev o_rotalaw12_BitsAll_12 : List IOper := [⟨(some 66), .mv (.t 10), none⟩,
  ⟨(some 67), .call (.k (.c (.fn fn_bits_Rank [] []))) [(.t 66)], none⟩,
  ⟨(some 65), .mv (.t 67), none⟩,
  ⟨(some 68), .ext (.t 65) 0, none⟩,
  ⟨(some 69), .ext (.t 65) 1, none⟩,
  ⟨(some 12), .mv (.t 68), none⟩,
  ⟨(some 13), .mv (.t 69), none⟩]
abbrev o_rotalaw12_BitsAll_13 : List IOper := [⟨(some 70), .mv (.t 13), none⟩,
  ⟨(some 71), .bin .neq (.t 70) (.k (.c (.int .i64 0))), none⟩,
  ⟨(some 72), .mv (.t 71), none⟩,
  ⟨(some 73), .mv (.t 12), some (72, false)⟩,
  ⟨(some 74), .mv (.t 11), some (72, false)⟩,
  ⟨(some 75), .bin .neq (.t 73) (.t 74), some (72, false)⟩,
  ⟨(some 76), .pick (.t 72) (.k (.c (.bool true))) (.t 75), none⟩,
  ⟨(some 77), .mv (.t 76), none⟩,
  ⟨(some 78), .mv (.t 10), some (77, false)⟩,
  ⟨(some 79), .call (.k (.c (.fn fn_bits_Size [] []))) [(.t 78)], some (77, false)⟩,
  ⟨(some 80), .mv (.t 7), some (77, false)⟩,
  ⟨(some 81), .bin .neq (.t 79) (.t 80), some (77, false)⟩,
  ⟨(some 82), .pick (.t 77) (.k (.c (.bool true))) (.t 81), none⟩,
  ⟨(some 83), .mv (.t 82), none⟩,
  ⟨(some 84), .mv (.t 10), some (83, false)⟩,
  ⟨(some 85), .mv (.t 6), some (83, false)⟩,
  ⟨(some 86), .cv .u64 (.t 85), some (83, false)⟩,
  ⟨(some 87), .bin .shr (.t 84) (.t 86), some (83, false)⟩,
  ⟨(some 88), .bin .neq (.t 87) (.k (.c (.int .u64 0))), some (83, false)⟩,
  ⟨(some 89), .pick (.t 83) (.k (.c (.bool true))) (.t 88), none⟩]
abbrev o_rotalaw12_BitsAll_14 : List IOper := [⟨(some 4), .mv (.k (.c (.bool false))), none⟩]
abbrev o_rotalaw12_BitsAll_15 : List IOper := [⟨(some 91), .mv (.t 10), none⟩,
  ⟨(some 92), .mv (.t 6), none⟩,
  ⟨(some 93), .call (.k (.c (.fn fn_bits_Next [] []))) [(.t 91), (.t 92)], none⟩,
  ⟨(some 90), .mv (.t 93), none⟩,
  ⟨(some 94), .ext (.t 90) 0, none⟩,
  ⟨(some 95), .ext (.t 90) 1, none⟩,
  ⟨(some 14), .mv (.t 94), none⟩,
  ⟨(some 15), .mv (.t 95), none⟩]
abbrev o_rotalaw12_BitsAll_16 : List IOper := [⟨(some 96), .mv (.t 15), none⟩,
  ⟨(some 97), .mv (.t 11), none⟩,
  ⟨(some 98), .bin .add (.t 97) (.k (.c (.int .u64 1))), none⟩,
  ⟨(some 99), .mv (.t 8), none⟩,
  ⟨(some 100), .bin .lss (.t 98) (.t 99), none⟩,
  ⟨(some 101), .eq .bool true (.t 96) (.t 100), none⟩,
  ⟨(some 102), .mv (.t 101), none⟩,
  ⟨(some 103), .mv (.t 15), some (102, false)⟩,
  ⟨(some 104), .mv (.t 103), some (102, false)⟩,
  ⟨(some 105), .mv (.t 14), some (104, true)⟩,
  ⟨(some 106), .mv (.t 10), some (104, true)⟩,
  ⟨(some 107), .bin .leq (.t 105) (.t 106), some (104, true)⟩,
  ⟨(some 108), .pick (.t 104) (.t 107) (.k (.c (.bool false))), some (102, false)⟩,
  ⟨(some 109), .pick (.t 102) (.k (.c (.bool true))) (.t 108), none⟩]
abbrev o_rotalaw12_BitsAll_17 : List IOper := [⟨(some 4), .mv (.k (.c (.bool false))), none⟩]
abbrev o_rotalaw12_BitsAll_18 : List IOper := [⟨(some 110), .mv (.t 14), none⟩,
  ⟨(some 10), .mv (.t 110), none⟩]
abbrev o_rotalaw12_BitsAll_19 : List IOper := [⟨(some 63), .mv (.t 11), none⟩,
  ⟨(some 64), .bin .add (.t 63) (.k (.c (.int .u64 1))), none⟩,
  ⟨(some 11), .mv (.t 64), none⟩]
def b_rotalaw12_BitsAll_20 : IC := (.seq (.seq (.ops o_rotalaw12_BitsAll_11) (.cond (.t 62) .skip (.exit 0))) (.seq (.block 1 (.seq (.ops o_rotalaw12_BitsAll_12) (.seq (.seq (.ops o_rotalaw12_BitsAll_13) (.cond (.t 89) (.seq (.ops o_rotalaw12_BitsAll_14) .ret) .skip)) (.seq (.ops o_rotalaw12_BitsAll_15) (.seq (.seq (.ops o_rotalaw12_BitsAll_16) (.cond (.t 109) (.seq (.ops o_rotalaw12_BitsAll_17) .ret) .skip)) (.ops o_rotalaw12_BitsAll_18)))))) (.ops o_rotalaw12_BitsAll_19)))
abbrev o_rotalaw12_BitsAll_21 : List IOper := [⟨(some 111), .mv (.t 5), none⟩,
  ⟨(some 4), .mv (.t 111), none⟩]
def c_rotalaw12_BitsAll : IC := (.seq (.ops o_rotalaw12_BitsAll_0) (.seq (.ops o_rotalaw12_BitsAll_1) (.seq (.ops o_rotalaw12_BitsAll_2) (.seq (.ops o_rotalaw12_BitsAll_3) (.seq (.ops o_rotalaw12_BitsAll_4) (.seq (.seq (.ops o_rotalaw12_BitsAll_5) (.cond (.t 30) (.seq (.ops o_rotalaw12_BitsAll_6) .ret) .skip)) (.seq (.seq (.ops o_rotalaw12_BitsAll_7) (.cond (.t 37) (.seq (.ops o_rotalaw12_BitsAll_8) .ret) .skip)) (.seq (.ops o_rotalaw12_BitsAll_9) (.seq (.seq (.ops o_rotalaw12_BitsAll_10) (.block 0 (.loop b_rotalaw12_BitsAll_20))) (.seq (.ops o_rotalaw12_BitsAll_21) .ret))))))))))
def i_rotalaw12_BitsAll : IFn := ⟨112, c_rotalaw12_BitsAll, [(4, none)]⟩

-- F 8 rota/rotalaw12.BitsOrder: bads 0, calls [10, 18, 25, 27, 29, 25, 18, 23, 23]
abbrev o_rotalaw12_BitsOrder_0 : List IOper := [⟨(some 4), .mv (.k (.c (.bool false))), none⟩]
abbrev o_rotalaw12_BitsOrder_1 : List IOper := [⟨(some 21), .call (.k (.c (.fn fn_rotalaw12_alive [] []))) [], none⟩,
  ⟨(some 5), .mv (.t 21), none⟩]
abbrev o_rotalaw12_BitsOrder_2 : List IOper := [⟨(some 22), .mv (.t 0), none⟩,
  ⟨(some 23), .bin .rem (.t 22) (.k (.c (.int .u64 1152921504606846976))), none⟩,
  ⟨(some 0), .mv (.t 23), none⟩]
abbrev o_rotalaw12_BitsOrder_3 : List IOper := [⟨(some 24), .mv (.t 0), none⟩,
  ⟨(some 25), .call (.k (.c (.fn fn_bits_Size [] []))) [(.t 24)], none⟩,
  ⟨(some 6), .mv (.t 25), none⟩]
abbrev o_rotalaw12_BitsOrder_4 : List IOper := [⟨(some 27), .mv (.t 0), none⟩,
  ⟨(some 28), .call (.k (.c (.fn fn_bits_Rank [] []))) [(.t 27)], none⟩,
  ⟨(some 26), .mv (.t 28), none⟩,
  ⟨(some 29), .ext (.t 26) 0, none⟩,
  ⟨(some 30), .ext (.t 26) 1, none⟩,
  ⟨(some 7), .mv (.t 29), none⟩,
  ⟨(some 8), .mv (.t 30), none⟩]
abbrev o_rotalaw12_BitsOrder_5 : List IOper := [⟨(some 32), .mv (.t 6), none⟩,
  ⟨(some 33), .mv (.t 7), none⟩,
  ⟨(some 34), .call (.k (.c (.fn fn_bits_Unrank [] []))) [(.t 32), (.t 33)], none⟩,
  ⟨(some 31), .mv (.t 34), none⟩,
  ⟨(some 35), .ext (.t 31) 0, none⟩,
  ⟨(some 36), .ext (.t 31) 1, none⟩,
  ⟨(some 9), .mv (.t 35), none⟩,
  ⟨(some 10), .mv (.t 36), none⟩]
abbrev o_rotalaw12_BitsOrder_6 : List IOper := [⟨(some 37), .mv (.t 8), none⟩,
  ⟨(some 38), .bin .neq (.t 37) (.k (.c (.int .i64 0))), none⟩,
  ⟨(some 39), .mv (.t 38), none⟩,
  ⟨(some 40), .mv (.t 10), some (39, false)⟩,
  ⟨(some 41), .bin .neq (.t 40) (.k (.c (.int .i64 0))), some (39, false)⟩,
  ⟨(some 42), .pick (.t 39) (.k (.c (.bool true))) (.t 41), none⟩,
  ⟨(some 43), .mv (.t 42), none⟩,
  ⟨(some 44), .mv (.t 9), some (43, false)⟩,
  ⟨(some 45), .mv (.t 0), some (43, false)⟩,
  ⟨(some 46), .bin .neq (.t 44) (.t 45), some (43, false)⟩,
  ⟨(some 47), .pick (.t 43) (.k (.c (.bool true))) (.t 46), none⟩]
abbrev o_rotalaw12_BitsOrder_7 : List IOper := [⟨(some 4), .mv (.k (.c (.bool false))), none⟩]
abbrev o_rotalaw12_BitsOrder_8 : List IOper := [⟨(some 49), .mv (.t 0), none⟩,
  ⟨(some 50), .call (.k (.c (.fn fn_bits_Next [] []))) [(.t 49), (.k (.c (.int .i64 60)))], none⟩,
  ⟨(some 48), .mv (.t 50), none⟩,
  ⟨(some 51), .ext (.t 48) 0, none⟩,
  ⟨(some 52), .ext (.t 48) 1, none⟩,
  ⟨(some 11), .mv (.t 51), none⟩,
  ⟨(some 12), .mv (.t 52), none⟩]
abbrev o_rotalaw12_BitsOrder_9 : List IOper := [⟨(some 53), .mv (.t 12), none⟩]
abbrev o_rotalaw12_BitsOrder_10 : List IOper := [⟨(some 55), .mv (.t 11), none⟩,
  ⟨(some 56), .call (.k (.c (.fn fn_bits_Rank [] []))) [(.t 55)], none⟩,
  ⟨(some 54), .mv (.t 56), none⟩,
  ⟨(some 57), .ext (.t 54) 0, none⟩,
  ⟨(some 58), .ext (.t 54) 1, none⟩,
  ⟨(some 13), .mv (.t 57), none⟩,
  ⟨(some 14), .mv (.t 58), none⟩]
abbrev o_rotalaw12_BitsOrder_11 : List IOper := [⟨(some 59), .mv (.t 14), none⟩,
  ⟨(some 60), .bin .neq (.t 59) (.k (.c (.int .i64 0))), none⟩,
  ⟨(some 61), .mv (.t 60), none⟩,
  ⟨(some 62), .mv (.t 13), some (61, false)⟩,
  ⟨(some 63), .mv (.t 7), some (61, false)⟩,
  ⟨(some 64), .bin .add (.t 63) (.k (.c (.int .u64 1))), some (61, false)⟩,
  ⟨(some 65), .bin .neq (.t 62) (.t 64), some (61, false)⟩,
  ⟨(some 66), .pick (.t 61) (.k (.c (.bool true))) (.t 65), none⟩,
  ⟨(some 67), .mv (.t 66), none⟩,
  ⟨(some 68), .mv (.t 11), some (67, false)⟩,
  ⟨(some 69), .call (.k (.c (.fn fn_bits_Size [] []))) [(.t 68)], some (67, false)⟩,
  ⟨(some 70), .mv (.t 6), some (67, false)⟩,
  ⟨(some 71), .bin .neq (.t 69) (.t 70), some (67, false)⟩,
  ⟨(some 72), .pick (.t 67) (.k (.c (.bool true))) (.t 71), none⟩,
  ⟨(some 73), .mv (.t 72), none⟩,
  ⟨(some 74), .mv (.t 11), some (73, false)⟩,
  ⟨(some 75), .mv (.t 0), some (73, false)⟩,
  ⟨(some 76), .bin .leq (.t 74) (.t 75), some (73, false)⟩,
  ⟨(some 77), .pick (.t 73) (.k (.c (.bool true))) (.t 76), none⟩]
abbrev o_rotalaw12_BitsOrder_12 : List IOper := [⟨(some 4), .mv (.k (.c (.bool false))), none⟩]
abbrev o_rotalaw12_BitsOrder_13 : List IOper := [⟨(some 79), .mv (.t 6), none⟩,
  ⟨(some 80), .call (.k (.c (.fn fn_bits_Subsets [] []))) [(.k (.c (.int .i64 60))), (.t 79)], none⟩,
  ⟨(some 78), .mv (.t 80), none⟩,
  ⟨(some 81), .ext (.t 78) 0, none⟩,
  ⟨(some 82), .ext (.t 78) 1, none⟩,
  ⟨(some 15), .mv (.t 81), none⟩,
  ⟨(some 16), .mv (.t 82), none⟩]
abbrev o_rotalaw12_BitsOrder_14 : List IOper := [⟨(some 83), .mv (.t 16), none⟩,
  ⟨(some 84), .bin .neq (.t 83) (.k (.c (.int .i64 0))), none⟩,
  ⟨(some 85), .mv (.t 84), none⟩,
  ⟨(some 86), .mv (.t 12), some (85, false)⟩,
  ⟨(some 87), .mv (.t 7), some (85, false)⟩,
  ⟨(some 88), .bin .add (.t 87) (.k (.c (.int .u64 1))), some (85, false)⟩,
  ⟨(some 89), .mv (.t 15), some (85, false)⟩,
  ⟨(some 90), .bin .lss (.t 88) (.t 89), some (85, false)⟩,
  ⟨(some 91), .eq .bool true (.t 86) (.t 90), some (85, false)⟩,
  ⟨(some 92), .pick (.t 85) (.k (.c (.bool true))) (.t 91), none⟩]
abbrev o_rotalaw12_BitsOrder_15 : List IOper := [⟨(some 4), .mv (.k (.c (.bool false))), none⟩]
abbrev o_rotalaw12_BitsOrder_16 : List IOper := [⟨(some 93), .mv (.t 1), none⟩,
  ⟨(some 94), .cv .i64 (.t 93), none⟩,
  ⟨(some 95), .bin .rem (.t 94) (.k (.c (.int .i64 61))), none⟩,
  ⟨(some 17), .mv (.t 95), none⟩]
abbrev o_rotalaw12_BitsOrder_17 : List IOper := [⟨(some 97), .mv (.t 17), none⟩,
  ⟨(some 98), .mv (.t 6), none⟩,
  ⟨(some 99), .call (.k (.c (.fn fn_bits_Subsets [] []))) [(.t 97), (.t 98)], none⟩,
  ⟨(some 96), .mv (.t 99), none⟩,
  ⟨(some 100), .ext (.t 96) 0, none⟩,
  ⟨(some 101), .ext (.t 96) 1, none⟩,
  ⟨(some 18), .mv (.t 100), none⟩,
  ⟨(some 19), .mv (.t 101), none⟩]
abbrev o_rotalaw12_BitsOrder_18 : List IOper := [⟨(some 102), .mv (.t 0), none⟩,
  ⟨(some 103), .mv (.t 17), none⟩,
  ⟨(some 104), .cv .u64 (.t 103), none⟩,
  ⟨(some 105), .bin .shr (.t 102) (.t 104), none⟩,
  ⟨(some 106), .bin .eql (.t 105) (.k (.c (.int .u64 0))), none⟩,
  ⟨(some 20), .mv (.t 106), none⟩]
abbrev o_rotalaw12_BitsOrder_19 : List IOper := [⟨(some 107), .mv (.t 5), none⟩,
  ⟨(some 108), .mv (.t 107), none⟩,
  ⟨(some 109), .mv (.t 19), some (108, true)⟩,
  ⟨(some 110), .bin .eql (.t 109) (.k (.c (.int .i64 0))), some (108, true)⟩,
  ⟨(some 111), .pick (.t 108) (.t 110) (.k (.c (.bool false))), none⟩,
  ⟨(some 112), .mv (.t 111), none⟩,
  ⟨(some 113), .mv (.t 20), some (112, true)⟩,
  ⟨(some 114), .mv (.t 7), some (112, true)⟩,
  ⟨(some 115), .mv (.t 18), some (112, true)⟩,
  ⟨(some 116), .bin .lss (.t 114) (.t 115), some (112, true)⟩,
  ⟨(some 117), .eq .bool false (.t 113) (.t 116), some (112, true)⟩,
  ⟨(some 118), .pick (.t 112) (.t 117) (.k (.c (.bool false))), none⟩,
  ⟨(some 4), .mv (.t 118), none⟩]
def c_rotalaw12_BitsOrder : IC := (.seq (.ops o_rotalaw12_BitsOrder_0) (.seq (.ops o_rotalaw12_BitsOrder_1) (.seq (.ops o_rotalaw12_BitsOrder_2) (.seq (.ops o_rotalaw12_BitsOrder_3) (.seq (.ops o_rotalaw12_BitsOrder_4) (.seq (.ops o_rotalaw12_BitsOrder_5) (.seq (.seq (.ops o_rotalaw12_BitsOrder_6) (.cond (.t 47) (.seq (.ops o_rotalaw12_BitsOrder_7) .ret) .skip)) (.seq (.ops o_rotalaw12_BitsOrder_8) (.seq (.seq (.ops o_rotalaw12_BitsOrder_9) (.cond (.t 53) (.seq (.ops o_rotalaw12_BitsOrder_10) (.seq (.ops o_rotalaw12_BitsOrder_11) (.cond (.t 77) (.seq (.ops o_rotalaw12_BitsOrder_12) .ret) .skip))) .skip)) (.seq (.ops o_rotalaw12_BitsOrder_13) (.seq (.seq (.ops o_rotalaw12_BitsOrder_14) (.cond (.t 92) (.seq (.ops o_rotalaw12_BitsOrder_15) .ret) .skip)) (.seq (.ops o_rotalaw12_BitsOrder_16) (.seq (.ops o_rotalaw12_BitsOrder_17) (.seq (.ops o_rotalaw12_BitsOrder_18) (.seq (.ops o_rotalaw12_BitsOrder_19) .ret)))))))))))))))
def i_rotalaw12_BitsOrder : IFn := ⟨119, c_rotalaw12_BitsOrder, [(4, none)]⟩

-- F 9 rota/rotalaw12.BitsNames: bads 0, calls [16, 23, 23, 25, 27, 27, 29, 29, 29, 31, 31, 25, 23, 27, 27, 27, 23, 29, 29, 29, 11, 11, 11, 18, 19, 19, 10]
abbrev o_rotalaw12_BitsNames_0 : List IOper := [⟨(some 0), .mv (.k (.c (.bool false))), none⟩]
abbrev o_rotalaw12_BitsNames_1 : List IOper := [⟨(some 43), .call (.k (.c (.fn fn_bits_Runs [] []))) [(.k (.c (.int .u64 55)))], none⟩,
  ⟨(some 1), .mv (.t 43), none⟩]
abbrev o_rotalaw12_BitsNames_2 : List IOper := [⟨(some 45), .call (.k (.c (.fn fn_bits_Subsets [] []))) [(.k (.c (.int .i64 5))), (.k (.c (.int .i64 2)))], none⟩,
  ⟨(some 44), .mv (.t 45), none⟩,
  ⟨(some 46), .ext (.t 44) 0, none⟩,
  ⟨(some 47), .ext (.t 44) 1, none⟩,
  ⟨(some 2), .mv (.t 46), none⟩,
  ⟨(some 3), .mv (.t 47), none⟩]
abbrev o_rotalaw12_BitsNames_3 : List IOper := [⟨(some 49), .call (.k (.c (.fn fn_bits_Subsets [] []))) [(.k (.c (.int .i64 61))), (.k (.c (.int .i64 1)))], none⟩,
  ⟨(some 48), .mv (.t 49), none⟩,
  ⟨(some 50), .ext (.t 48) 0, none⟩,
  ⟨(some 51), .ext (.t 48) 1, none⟩,
  ⟨(some 4), .mv (.t 50), none⟩,
  ⟨(some 5), .mv (.t 51), none⟩]
abbrev o_rotalaw12_BitsNames_4 : List IOper := [⟨(some 53), .call (.k (.c (.fn fn_bits_Rank [] []))) [(.k (.c (.int .u64 6)))], none⟩,
  ⟨(some 52), .mv (.t 53), none⟩,
  ⟨(some 54), .ext (.t 52) 0, none⟩,
  ⟨(some 55), .ext (.t 52) 1, none⟩,
  ⟨(some 6), .mv (.t 54), none⟩,
  ⟨(some 7), .mv (.t 55), none⟩]
abbrev o_rotalaw12_BitsNames_5 : List IOper := [⟨(some 57), .call (.k (.c (.fn fn_bits_Unrank [] []))) [(.k (.c (.int .i64 2))), (.k (.c (.int .u64 2)))], none⟩,
  ⟨(some 56), .mv (.t 57), none⟩,
  ⟨(some 58), .ext (.t 56) 0, none⟩,
  ⟨(some 59), .ext (.t 56) 1, none⟩,
  ⟨(some 8), .mv (.t 58), none⟩,
  ⟨(some 9), .mv (.t 59), none⟩]
abbrev o_rotalaw12_BitsNames_6 : List IOper := [⟨(some 61), .call (.k (.c (.fn fn_bits_Unrank [] []))) [(.k (.c (.int .i64 0))), (.k (.c (.int .u64 1)))], none⟩,
  ⟨(some 60), .mv (.t 61), none⟩,
  ⟨(some 62), .ext (.t 60) 0, none⟩,
  ⟨(some 63), .ext (.t 60) 1, none⟩,
  ⟨(some 10), .mv (.t 62), none⟩,
  ⟨(some 11), .mv (.t 63), none⟩]
abbrev o_rotalaw12_BitsNames_7 : List IOper := [⟨(some 65), .call (.k (.c (.fn fn_bits_Next [] []))) [(.k (.c (.int .u64 3))), (.k (.c (.int .i64 5)))], none⟩,
  ⟨(some 64), .mv (.t 65), none⟩,
  ⟨(some 66), .ext (.t 64) 0, none⟩,
  ⟨(some 67), .ext (.t 64) 1, none⟩,
  ⟨(some 12), .mv (.t 66), none⟩,
  ⟨(some 13), .mv (.t 67), none⟩]
abbrev o_rotalaw12_BitsNames_8 : List IOper := [⟨(some 69), .call (.k (.c (.fn fn_bits_Next [] []))) [(.k (.c (.int .u64 6))), (.k (.c (.int .i64 3)))], none⟩,
  ⟨(some 68), .mv (.t 69), none⟩,
  ⟨(some 70), .ext (.t 68) 0, none⟩,
  ⟨(some 71), .ext (.t 68) 1, none⟩,
  ⟨(some 14), .mv (.t 70), none⟩,
  ⟨(some 15), .mv (.t 71), none⟩]
abbrev o_rotalaw12_BitsNames_9 : List IOper := [⟨(some 73), .call (.k (.c (.fn fn_bits_Next [] []))) [(.k (.c (.int .u64 0))), (.k (.c (.int .i64 5)))], none⟩,
  ⟨(some 72), .mv (.t 73), none⟩,
  ⟨(some 74), .ext (.t 72) 0, none⟩,
  ⟨(some 75), .ext (.t 72) 1, none⟩,
  ⟨(some 16), .mv (.t 74), none⟩,
  ⟨(some 17), .mv (.t 75), none⟩]
abbrev o_rotalaw12_BitsNames_10 : List IOper := [⟨(some 76), .mv (.t 1), none⟩,
  ⟨(some 77), .len false (.t 76), none⟩,
  ⟨(some 78), .bin .eql (.t 77) (.k (.c (.int .i64 2))), none⟩,
  ⟨(some 79), .mv (.t 78), none⟩,
  ⟨(some 80), .mv (.t 1), some (79, true)⟩,
  ⟨(some 81), .iaS 2 (.t 80) (.k (.c (.int .i64 0))), some (79, true)⟩,
  ⟨(some 82), .ld (some 2) (.t 81), some (79, true)⟩,
  ⟨(some 83), .build [(.int .i64 0), (.int .i64 0)] [(0, 1, (.k (.c (.int .i64 0)))), (1, 1, (.k (.c (.int .i64 3))))], some (79, true)⟩,
  ⟨(some 84), .eqagg [.int, .int] false (.t 82) (.t 83), some (79, true)⟩,
  ⟨(some 85), .pick (.t 79) (.t 84) (.k (.c (.bool false))), none⟩,
  ⟨(some 86), .mv (.t 85), none⟩,
  ⟨(some 87), .mv (.t 1), some (86, true)⟩,
  ⟨(some 88), .iaS 2 (.t 87) (.k (.c (.int .i64 1))), some (86, true)⟩,
  ⟨(some 89), .ld (some 2) (.t 88), some (86, true)⟩,
  ⟨(some 90), .build [(.int .i64 0), (.int .i64 0)] [(0, 1, (.k (.c (.int .i64 4)))), (1, 1, (.k (.c (.int .i64 6))))], some (86, true)⟩,
  ⟨(some 91), .eqagg [.int, .int] false (.t 89) (.t 90), some (86, true)⟩,
  ⟨(some 92), .pick (.t 86) (.t 91) (.k (.c (.bool false))), none⟩,
  ⟨(some 93), .mv (.t 92), none⟩,
  ⟨(some 94), .mv (.t 2), some (93, true)⟩,
  ⟨(some 95), .bin .eql (.t 94) (.k (.c (.int .u64 10))), some (93, true)⟩,
  ⟨(some 96), .pick (.t 93) (.t 95) (.k (.c (.bool false))), none⟩,
  ⟨(some 97), .mv (.t 96), none⟩,
  ⟨(some 98), .mv (.t 3), some (97, true)⟩,
  ⟨(some 99), .bin .eql (.t 98) (.k (.c (.int .i64 0))), some (97, true)⟩,
  ⟨(some 100), .pick (.t 97) (.t 99) (.k (.c (.bool false))), none⟩,
  ⟨(some 101), .mv (.t 100), none⟩,
  ⟨(some 102), .mv (.t 5), some (101, true)⟩,
  ⟨(some 103), .bin .eql (.t 102) (.k (.c (.int .i64 120))), some (101, true)⟩,
  ⟨(some 104), .pick (.t 101) (.t 103) (.k (.c (.bool false))), none⟩,
  ⟨(some 105), .mv (.t 104), none⟩,
  ⟨(some 106), .mv (.t 6), some (105, true)⟩,
  ⟨(some 107), .bin .eql (.t 106) (.k (.c (.int .u64 2))), some (105, true)⟩,
  ⟨(some 108), .pick (.t 105) (.t 107) (.k (.c (.bool false))), none⟩,
  ⟨(some 109), .mv (.t 108), none⟩,
  ⟨(some 110), .mv (.t 7), some (109, true)⟩,
  ⟨(some 111), .bin .eql (.t 110) (.k (.c (.int .i64 0))), some (109, true)⟩,
  ⟨(some 112), .pick (.t 109) (.t 111) (.k (.c (.bool false))), none⟩,
  ⟨(some 113), .mv (.t 112), none⟩,
  ⟨(some 114), .mv (.t 8), some (113, true)⟩,
  ⟨(some 115), .bin .eql (.t 114) (.k (.c (.int .u64 6))), some (113, true)⟩,
  ⟨(some 116), .pick (.t 113) (.t 115) (.k (.c (.bool false))), none⟩,
  ⟨(some 117), .mv (.t 116), none⟩,
  ⟨(some 118), .mv (.t 9), some (117, true)⟩,
  ⟨(some 119), .bin .eql (.t 118) (.k (.c (.int .i64 0))), some (117, true)⟩,
  ⟨(some 120), .pick (.t 117) (.t 119) (.k (.c (.bool false))), none⟩,
  ⟨(some 121), .mv (.t 120), none⟩,
  ⟨(some 122), .mv (.t 11), some (121, true)⟩,
  ⟨(some 123), .bin .eql (.t 122) (.k (.c (.int .i64 120))), some (121, true)⟩,
  ⟨(some 124), .pick (.t 121) (.t 123) (.k (.c (.bool false))), none⟩,
  ⟨(some 125), .mv (.t 124), none⟩,
  ⟨(some 126), .mv (.t 12), some (125, true)⟩,
  ⟨(some 127), .bin .eql (.t 126) (.k (.c (.int .u64 5))), some (125, true)⟩,
  ⟨(some 128), .pick (.t 125) (.t 127) (.k (.c (.bool false))), none⟩,
  ⟨(some 129), .mv (.t 128), none⟩,
  ⟨(some 130), .mv (.t 13), some (129, true)⟩,
  ⟨(some 131), .pick (.t 129) (.t 130) (.k (.c (.bool false))), none⟩,
  ⟨(some 132), .mv (.t 131), none⟩,
  ⟨(some 133), .mv (.t 15), some (132, true)⟩,
  ⟨(some 134), .un .not (.t 133), some (132, true)⟩,
  ⟨(some 135), .pick (.t 132) (.t 134) (.k (.c (.bool false))), none⟩,
  ⟨(some 136), .mv (.t 135), none⟩,
  ⟨(some 137), .mv (.t 17), some (136, true)⟩,
  ⟨(some 138), .un .not (.t 137), some (136, true)⟩,
  ⟨(some 139), .pick (.t 136) (.t 138) (.k (.c (.bool false))), none⟩,
  ⟨(some 18), .mv (.t 139), none⟩]
abbrev o_rotalaw12_BitsNames_11 : List IOper := [⟨(some 141), .bsl 3 1 [(.int .i64 0)] [(0, 1, (.k (.c (.int .i64 64))))], none⟩,
  ⟨(some 142), .call (.k (.c (.fn fn_bits_Of [] []))) [(.t 141)], none⟩,
  ⟨(some 140), .mv (.t 142), none⟩,
  ⟨(some 143), .ext (.t 140) 0, none⟩,
  ⟨(some 144), .ext (.t 140) 1, none⟩,
  ⟨(some 19), .mv (.t 143), none⟩,
  ⟨(some 20), .mv (.t 144), none⟩]
abbrev o_rotalaw12_BitsNames_12 : List IOper := [⟨(some 146), .bsl 3 1 [(.int .i64 0)] [(0, 1, (.k (.c (.int .i64 (-1)))))], none⟩,
  ⟨(some 147), .call (.k (.c (.fn fn_bits_Of [] []))) [(.t 146)], none⟩,
  ⟨(some 145), .mv (.t 147), none⟩,
  ⟨(some 148), .ext (.t 145) 0, none⟩,
  ⟨(some 149), .ext (.t 145) 1, none⟩,
  ⟨(some 21), .mv (.t 148), none⟩,
  ⟨(some 22), .mv (.t 149), none⟩]
abbrev o_rotalaw12_BitsNames_13 : List IOper := [⟨(some 151), .call (.k (.c (.fn fn_bits_Rank [] []))) [(.k (.c (.int .u64 1152921504606846976)))], none⟩,
  ⟨(some 150), .mv (.t 151), none⟩,
  ⟨(some 152), .ext (.t 150) 0, none⟩,
  ⟨(some 153), .ext (.t 150) 1, none⟩,
  ⟨(some 23), .mv (.t 152), none⟩,
  ⟨(some 24), .mv (.t 153), none⟩]
abbrev o_rotalaw12_BitsNames_14 : List IOper := [⟨(some 155), .call (.k (.c (.fn fn_bits_Subsets [] []))) [(.k (.c (.int .i64 60))), (.k (.c (.int .i64 30)))], none⟩,
  ⟨(some 154), .mv (.t 155), none⟩,
  ⟨(some 156), .ext (.t 154) 0, none⟩,
  ⟨(some 157), .ext (.t 154) 1, none⟩,
  ⟨(some 25), .mv (.t 156), none⟩,
  ⟨(some 26), .mv (.t 157), none⟩]
abbrev o_rotalaw12_BitsNames_15 : List IOper := [⟨(some 159), .mv (.t 25), none⟩,
  ⟨(some 160), .call (.k (.c (.fn fn_bits_Unrank [] []))) [(.k (.c (.int .i64 30))), (.t 159)], none⟩,
  ⟨(some 158), .mv (.t 160), none⟩,
  ⟨(some 161), .ext (.t 158) 0, none⟩,
  ⟨(some 162), .ext (.t 158) 1, none⟩,
  ⟨(some 27), .mv (.t 161), none⟩,
  ⟨(some 28), .mv (.t 162), none⟩]
abbrev o_rotalaw12_BitsNames_16 : List IOper := [⟨(some 164), .call (.k (.c (.fn fn_bits_Unrank [] []))) [(.k (.c (.int .i64 61))), (.k (.c (.int .u64 0)))], none⟩,
  ⟨(some 163), .mv (.t 164), none⟩,
  ⟨(some 165), .ext (.t 163) 0, none⟩,
  ⟨(some 166), .ext (.t 163) 1, none⟩,
  ⟨(some 29), .mv (.t 165), none⟩,
  ⟨(some 30), .mv (.t 166), none⟩]
abbrev o_rotalaw12_BitsNames_17 : List IOper := [⟨(some 168), .call (.k (.c (.fn fn_bits_Unrank [] []))) [(.k (.c (.int .i64 (-1)))), (.k (.c (.int .u64 0)))], none⟩,
  ⟨(some 167), .mv (.t 168), none⟩,
  ⟨(some 169), .ext (.t 167) 0, none⟩,
  ⟨(some 170), .ext (.t 167) 1, none⟩,
  ⟨(some 31), .mv (.t 169), none⟩,
  ⟨(some 32), .mv (.t 170), none⟩]
abbrev o_rotalaw12_BitsNames_18 : List IOper := [⟨(some 172), .call (.k (.c (.fn fn_bits_Subsets [] []))) [(.k (.c (.int .i64 4))), (.k (.c (.int .i64 5)))], none⟩,
  ⟨(some 171), .mv (.t 172), none⟩,
  ⟨(some 173), .ext (.t 171) 0, none⟩,
  ⟨(some 174), .ext (.t 171) 1, none⟩,
  ⟨(some 33), .mv (.t 173), none⟩,
  ⟨(some 34), .mv (.t 174), none⟩]
abbrev o_rotalaw12_BitsNames_19 : List IOper := [⟨(some 176), .call (.k (.c (.fn fn_bits_Next [] []))) [(.k (.c (.int .u64 4611686018427387904))), (.k (.c (.int .i64 64)))], none⟩,
  ⟨(some 175), .mv (.t 176), none⟩,
  ⟨(some 177), .ext (.t 175) 0, none⟩,
  ⟨(some 178), .ext (.t 175) 1, none⟩,
  ⟨(some 35), .mv (.t 177), none⟩,
  ⟨(some 36), .mv (.t 178), none⟩]
abbrev o_rotalaw12_BitsNames_20 : List IOper := [⟨(some 180), .call (.k (.c (.fn fn_bits_Next [] []))) [(.k (.c (.int .u64 9223372036854775808))), (.k (.c (.int .i64 64)))], none⟩,
  ⟨(some 179), .mv (.t 180), none⟩,
  ⟨(some 181), .ext (.t 179) 0, none⟩,
  ⟨(some 182), .ext (.t 179) 1, none⟩,
  ⟨(some 37), .mv (.t 181), none⟩,
  ⟨(some 38), .mv (.t 182), none⟩]
abbrev o_rotalaw12_BitsNames_21 : List IOper := [⟨(some 184), .call (.k (.c (.fn fn_bits_Next [] []))) [(.k (.c (.int .u64 1))), (.k (.c (.int .i64 65)))], none⟩,
  ⟨(some 183), .mv (.t 184), none⟩,
  ⟨(some 185), .ext (.t 183) 0, none⟩,
  ⟨(some 186), .ext (.t 183) 1, none⟩,
  ⟨(some 39), .mv (.t 185), none⟩,
  ⟨(some 40), .mv (.t 186), none⟩]
abbrev o_rotalaw12_BitsNames_22 : List IOper := [⟨(some 187), .mv (.t 20), none⟩,
  ⟨(some 188), .bin .eql (.t 187) (.k (.c (.int .i64 120))), none⟩,
  ⟨(some 189), .mv (.t 188), none⟩,
  ⟨(some 190), .mv (.t 22), some (189, true)⟩,
  ⟨(some 191), .bin .eql (.t 190) (.k (.c (.int .i64 120))), some (189, true)⟩,
  ⟨(some 192), .pick (.t 189) (.t 191) (.k (.c (.bool false))), none⟩,
  ⟨(some 193), .mv (.t 192), none⟩,
  ⟨(some 194), .mv (.t 24), some (193, true)⟩,
  ⟨(some 195), .bin .eql (.t 194) (.k (.c (.int .i64 120))), some (193, true)⟩,
  ⟨(some 196), .pick (.t 193) (.t 195) (.k (.c (.bool false))), none⟩,
  ⟨(some 197), .mv (.t 196), none⟩,
  ⟨(some 198), .mv (.t 25), some (197, true)⟩,
  ⟨(some 199), .bin .eql (.t 198) (.k (.c (.int .u64 118264581564861424))), some (197, true)⟩,
  ⟨(some 200), .pick (.t 197) (.t 199) (.k (.c (.bool false))), none⟩,
  ⟨(some 201), .mv (.t 200), none⟩,
  ⟨(some 202), .mv (.t 26), some (201, true)⟩,
  ⟨(some 203), .bin .eql (.t 202) (.k (.c (.int .i64 0))), some (201, true)⟩,
  ⟨(some 204), .pick (.t 201) (.t 203) (.k (.c (.bool false))), none⟩,
  ⟨(some 205), .mv (.t 204), none⟩,
  ⟨(some 206), .mv (.t 28), some (205, true)⟩,
  ⟨(some 207), .bin .eql (.t 206) (.k (.c (.int .i64 120))), some (205, true)⟩,
  ⟨(some 208), .pick (.t 205) (.t 207) (.k (.c (.bool false))), none⟩,
  ⟨(some 209), .mv (.t 208), none⟩,
  ⟨(some 210), .mv (.t 30), some (209, true)⟩,
  ⟨(some 211), .bin .eql (.t 210) (.k (.c (.int .i64 120))), some (209, true)⟩,
  ⟨(some 212), .pick (.t 209) (.t 211) (.k (.c (.bool false))), none⟩,
  ⟨(some 213), .mv (.t 212), none⟩,
  ⟨(some 214), .mv (.t 32), some (213, true)⟩,
  ⟨(some 215), .bin .eql (.t 214) (.k (.c (.int .i64 120))), some (213, true)⟩,
  ⟨(some 216), .pick (.t 213) (.t 215) (.k (.c (.bool false))), none⟩,
  ⟨(some 217), .mv (.t 216), none⟩,
  ⟨(some 218), .mv (.t 33), some (217, true)⟩,
  ⟨(some 219), .bin .eql (.t 218) (.k (.c (.int .u64 0))), some (217, true)⟩,
  ⟨(some 220), .pick (.t 217) (.t 219) (.k (.c (.bool false))), none⟩,
  ⟨(some 221), .mv (.t 220), none⟩,
  ⟨(some 222), .mv (.t 34), some (221, true)⟩,
  ⟨(some 223), .bin .eql (.t 222) (.k (.c (.int .i64 0))), some (221, true)⟩,
  ⟨(some 224), .pick (.t 221) (.t 223) (.k (.c (.bool false))), none⟩,
  ⟨(some 225), .mv (.t 224), none⟩,
  ⟨(some 226), .mv (.t 35), some (225, true)⟩,
  ⟨(some 227), .bin .eql (.t 226) (.k (.c (.int .u64 9223372036854775808))), some (225, true)⟩,
  ⟨(some 228), .pick (.t 225) (.t 227) (.k (.c (.bool false))), none⟩,
  ⟨(some 229), .mv (.t 228), none⟩,
  ⟨(some 230), .mv (.t 36), some (229, true)⟩,
  ⟨(some 231), .pick (.t 229) (.t 230) (.k (.c (.bool false))), none⟩,
  ⟨(some 232), .mv (.t 231), none⟩,
  ⟨(some 233), .mv (.t 38), some (232, true)⟩,
  ⟨(some 234), .un .not (.t 233), some (232, true)⟩,
  ⟨(some 235), .pick (.t 232) (.t 234) (.k (.c (.bool false))), none⟩,
  ⟨(some 236), .mv (.t 235), none⟩,
  ⟨(some 237), .mv (.t 40), some (236, true)⟩,
  ⟨(some 238), .un .not (.t 237), some (236, true)⟩,
  ⟨(some 239), .pick (.t 236) (.t 238) (.k (.c (.bool false))), none⟩,
  ⟨(some 41), .mv (.t 239), none⟩]
abbrev o_rotalaw12_BitsNames_23 : List IOper := [⟨(some 240), .call (.k (.c (.fn fn_bits_Majority [] []))) [(.k (.c (.int .u64 3))), (.k (.c (.int .u64 7)))], none⟩,
  ⟨(some 241), .mv (.t 240), none⟩,
  ⟨(some 242), .call (.k (.c (.fn fn_bits_Majority [] []))) [(.k (.c (.int .u64 3))), (.k (.c (.int .u64 15)))], some (241, true)⟩,
  ⟨(some 243), .un .not (.t 242), some (241, true)⟩,
  ⟨(some 244), .pick (.t 241) (.t 243) (.k (.c (.bool false))), none⟩,
  ⟨(some 245), .mv (.t 244), none⟩,
  ⟨(some 246), .call (.k (.c (.fn fn_bits_Majority [] []))) [(.k (.c (.int .u64 0))), (.k (.c (.int .u64 0)))], some (245, true)⟩,
  ⟨(some 247), .un .not (.t 246), some (245, true)⟩,
  ⟨(some 248), .pick (.t 245) (.t 247) (.k (.c (.bool false))), none⟩,
  ⟨(some 249), .mv (.t 248), none⟩,
  ⟨(some 250), .call (.k (.c (.fn fn_bits_Size [] []))) [(.k (.c (.int .u64 18446744073709551615)))], some (249, true)⟩,
  ⟨(some 251), .bin .eql (.t 250) (.k (.c (.int .i64 64))), some (249, true)⟩,
  ⟨(some 252), .pick (.t 249) (.t 251) (.k (.c (.bool false))), none⟩,
  ⟨(some 253), .mv (.t 252), none⟩,
  ⟨(some 254), .call (.k (.c (.fn fn_bits_Has [] []))) [(.k (.c (.int .u64 1))), (.k (.c (.int .i64 64)))], some (253, true)⟩,
  ⟨(some 255), .un .not (.t 254), some (253, true)⟩,
  ⟨(some 256), .pick (.t 253) (.t 255) (.k (.c (.bool false))), none⟩,
  ⟨(some 257), .mv (.t 256), none⟩,
  ⟨(some 258), .call (.k (.c (.fn fn_bits_Has [] []))) [(.k (.c (.int .u64 1))), (.k (.c (.int .i64 (-1))))], some (257, true)⟩,
  ⟨(some 259), .un .not (.t 258), some (257, true)⟩,
  ⟨(some 260), .pick (.t 257) (.t 259) (.k (.c (.bool false))), none⟩,
  ⟨(some 42), .mv (.t 260), none⟩]
abbrev o_rotalaw12_BitsNames_24 : List IOper := [⟨(some 261), .mv (.k (.c (.bool true))), none⟩,
  ⟨(some 262), .call (.k (.c (.fn fn_rotalaw12_alive [] []))) [], some (261, true)⟩,
  ⟨(some 263), .pick (.t 261) (.t 262) (.k (.c (.bool false))), none⟩,
  ⟨(some 264), .mv (.t 263), none⟩,
  ⟨(some 265), .mv (.t 18), some (264, true)⟩,
  ⟨(some 266), .pick (.t 264) (.t 265) (.k (.c (.bool false))), none⟩,
  ⟨(some 267), .mv (.t 266), none⟩,
  ⟨(some 268), .mv (.t 41), some (267, true)⟩,
  ⟨(some 269), .pick (.t 267) (.t 268) (.k (.c (.bool false))), none⟩,
  ⟨(some 270), .mv (.t 269), none⟩,
  ⟨(some 271), .mv (.t 42), some (270, true)⟩,
  ⟨(some 272), .pick (.t 270) (.t 271) (.k (.c (.bool false))), none⟩,
  ⟨(some 0), .mv (.t 272), none⟩]
def c_rotalaw12_BitsNames : IC := (.seq (.ops o_rotalaw12_BitsNames_0) (.seq (.ops o_rotalaw12_BitsNames_1) (.seq (.ops o_rotalaw12_BitsNames_2) (.seq (.ops o_rotalaw12_BitsNames_3) (.seq (.ops o_rotalaw12_BitsNames_4) (.seq (.ops o_rotalaw12_BitsNames_5) (.seq (.ops o_rotalaw12_BitsNames_6) (.seq (.ops o_rotalaw12_BitsNames_7) (.seq (.ops o_rotalaw12_BitsNames_8) (.seq (.ops o_rotalaw12_BitsNames_9) (.seq (.ops o_rotalaw12_BitsNames_10) (.seq (.ops o_rotalaw12_BitsNames_11) (.seq (.ops o_rotalaw12_BitsNames_12) (.seq (.ops o_rotalaw12_BitsNames_13) (.seq (.ops o_rotalaw12_BitsNames_14) (.seq (.ops o_rotalaw12_BitsNames_15) (.seq (.ops o_rotalaw12_BitsNames_16) (.seq (.ops o_rotalaw12_BitsNames_17) (.seq (.ops o_rotalaw12_BitsNames_18) (.seq (.ops o_rotalaw12_BitsNames_19) (.seq (.ops o_rotalaw12_BitsNames_20) (.seq (.ops o_rotalaw12_BitsNames_21) (.seq (.ops o_rotalaw12_BitsNames_22) (.seq (.ops o_rotalaw12_BitsNames_23) (.seq (.ops o_rotalaw12_BitsNames_24) .ret)))))))))))))))))))))))))
def i_rotalaw12_BitsNames : IFn := ⟨273, c_rotalaw12_BitsNames, [(0, none)]⟩

-- F 10 rota/rotalaw12.alive: bads 0, calls [31, 15, 12, 18]
abbrev o_rotalaw12_alive_0 : List IOper := [⟨(some 0), .mv (.k (.c (.bool false))), none⟩]
abbrev o_rotalaw12_alive_1 : List IOper := [⟨(some 7), .bsl 3 2 [(.int .i64 0), (.int .i64 0)] [(0, 1, (.k (.c (.int .i64 0)))), (1, 1, (.k (.c (.int .i64 3))))], none⟩,
  ⟨(some 8), .call (.k (.c (.fn fn_bits_Of [] []))) [(.t 7)], none⟩,
  ⟨(some 6), .mv (.t 8), none⟩,
  ⟨(some 9), .ext (.t 6) 0, none⟩,
  ⟨(some 10), .ext (.t 6) 1, none⟩,
  ⟨(some 1), .mv (.t 9), none⟩,
  ⟨(some 2), .mv (.t 10), none⟩]
abbrev o_rotalaw12_alive_2 : List IOper := [⟨(some 11), .call (.k (.c (.fn fn_bits_Members [] []))) [(.k (.c (.int .u64 9)))], none⟩,
  ⟨(some 3), .mv (.t 11), none⟩]
abbrev o_rotalaw12_alive_3 : List IOper := [⟨(some 13), .call (.k (.c (.fn fn_bits_From [] []))) [(.k (.c (.int .u64 9))), (.k (.c (.int .i64 1)))], none⟩,
  ⟨(some 12), .mv (.t 13), none⟩,
  ⟨(some 14), .ext (.t 12) 0, none⟩,
  ⟨(some 15), .ext (.t 12) 1, none⟩,
  ⟨(some 4), .mv (.t 14), none⟩,
  ⟨(some 5), .mv (.t 15), none⟩]
abbrev o_rotalaw12_alive_4 : List IOper := [⟨(some 16), .mv (.t 1), none⟩,
  ⟨(some 17), .bin .eql (.t 16) (.k (.c (.int .u64 9))), none⟩,
  ⟨(some 18), .mv (.t 17), none⟩,
  ⟨(some 19), .mv (.t 2), some (18, true)⟩,
  ⟨(some 20), .bin .eql (.t 19) (.k (.c (.int .i64 0))), some (18, true)⟩,
  ⟨(some 21), .pick (.t 18) (.t 20) (.k (.c (.bool false))), none⟩,
  ⟨(some 22), .mv (.t 21), none⟩,
  ⟨(some 23), .mv (.t 3), some (22, true)⟩,
  ⟨(some 24), .len false (.t 23), some (22, true)⟩,
  ⟨(some 25), .bin .eql (.t 24) (.k (.c (.int .i64 2))), some (22, true)⟩,
  ⟨(some 26), .pick (.t 22) (.t 25) (.k (.c (.bool false))), none⟩,
  ⟨(some 27), .mv (.t 26), none⟩,
  ⟨(some 28), .mv (.t 3), some (27, true)⟩,
  ⟨(some 29), .iaS 1 (.t 28) (.k (.c (.int .i64 0))), some (27, true)⟩,
  ⟨(some 30), .ld none (.t 29), some (27, true)⟩,
  ⟨(some 31), .bin .eql (.t 30) (.k (.c (.int .i64 0))), some (27, true)⟩,
  ⟨(some 32), .pick (.t 27) (.t 31) (.k (.c (.bool false))), none⟩,
  ⟨(some 33), .mv (.t 32), none⟩,
  ⟨(some 34), .mv (.t 3), some (33, true)⟩,
  ⟨(some 35), .iaS 1 (.t 34) (.k (.c (.int .i64 1))), some (33, true)⟩,
  ⟨(some 36), .ld none (.t 35), some (33, true)⟩,
  ⟨(some 37), .bin .eql (.t 36) (.k (.c (.int .i64 3))), some (33, true)⟩,
  ⟨(some 38), .pick (.t 33) (.t 37) (.k (.c (.bool false))), none⟩,
  ⟨(some 39), .mv (.t 38), none⟩,
  ⟨(some 40), .call (.k (.c (.fn fn_bits_Size [] []))) [(.k (.c (.int .u64 9)))], some (39, true)⟩,
  ⟨(some 41), .bin .eql (.t 40) (.k (.c (.int .i64 2))), some (39, true)⟩,
  ⟨(some 42), .pick (.t 39) (.t 41) (.k (.c (.bool false))), none⟩,
  ⟨(some 43), .mv (.t 42), none⟩,
  ⟨(some 44), .mv (.t 4), some (43, true)⟩,
  ⟨(some 45), .bin .eql (.t 44) (.k (.c (.int .i64 3))), some (43, true)⟩,
  ⟨(some 46), .pick (.t 43) (.t 45) (.k (.c (.bool false))), none⟩,
  ⟨(some 47), .mv (.t 46), none⟩,
  ⟨(some 48), .mv (.t 5), some (47, true)⟩,
  ⟨(some 49), .pick (.t 47) (.t 48) (.k (.c (.bool false))), none⟩,
  ⟨(some 0), .mv (.t 49), none⟩]
def c_rotalaw12_alive : IC := (.seq (.ops o_rotalaw12_alive_0) (.seq (.ops o_rotalaw12_alive_1) (.seq (.ops o_rotalaw12_alive_2) (.seq (.ops o_rotalaw12_alive_3) (.seq (.ops o_rotalaw12_alive_4) .ret)))))
def i_rotalaw12_alive : IFn := ⟨50, c_rotalaw12_alive, [(0, none)]⟩

-- F 11 rota/bits.Majority: bads 0, calls [18, 18]
abbrev o_bits_Majority_0 : List IOper := [⟨(some 4), .mv (.k (.c (.bool false))), none⟩]
abbrev o_bits_Majority_1 : List IOper := [⟨(some 5), .mv (.t 0), none⟩,
  ⟨(some 6), .mv (.t 1), none⟩,
  ⟨(some 7), .bin .and (.t 5) (.t 6), none⟩,
  ⟨(some 8), .call (.k (.c (.fn fn_bits_Size [] []))) [(.t 7)], none⟩,
  ⟨(some 9), .bin .mul (.k (.c (.int .i64 2))) (.t 8), none⟩,
  ⟨(some 10), .mv (.t 1), none⟩,
  ⟨(some 11), .call (.k (.c (.fn fn_bits_Size [] []))) [(.t 10)], none⟩,
  ⟨(some 12), .bin .gtr (.t 9) (.t 11), none⟩,
  ⟨(some 4), .mv (.t 12), none⟩]
def c_bits_Majority : IC := (.seq (.ops o_bits_Majority_0) (.seq (.ops o_bits_Majority_1) .ret))
def i_bits_Majority : IFn := ⟨13, c_bits_Majority, [(4, none)]⟩

-- F 12 rota/bits.From: bads 0, calls [32]
abbrev o_bits_From_0 : List IOper := [⟨(some 3), .box 3 (.t 1), none⟩,
  ⟨(some 4), .new 3 (.c (.int .i64 0)), none⟩,
  ⟨(some 5), .new 4 (.c (.bool false)), none⟩]
abbrev o_bits_From_1 : List IOper := [⟨(some 7), .mv (.t 0), none⟩,
  ⟨(some 8), .call (.k (.c (.fn fn_bits_all [] []))) [(.t 7)], none⟩]
abbrev o_bits_From_2 : List IOper := [⟨(some 6), .mv (.t 9), none⟩]
abbrev o_bits_From_3 : List IOper := [⟨(some 10), .mv (.t 6), none⟩,
  ⟨(some 11), .ld none (.t 3), none⟩,
  ⟨(some 12), .bin .geq (.t 10) (.t 11), none⟩]
abbrev o_bits_From_4 : List IOper := [⟨(some 13), .mv (.t 6), none⟩,
  ⟨none, .st 1 (.t 4) (.t 13), none⟩,
  ⟨none, .st 1 (.t 5) (.k (.c (.bool true))), none⟩]
def a_bits_From_5 : IC := (.ops o_bits_From_2)
def b_bits_From_6 : IC := (.block 1 (.seq (.ops o_bits_From_3) (.cond (.t 12) (.seq (.ops o_bits_From_4) .ret) .skip)))
abbrev o_bits_From_7 : List IOper := [⟨none, .st 1 (.t 4) (.k (.c (.int .i64 0))), none⟩,
  ⟨none, .st 1 (.t 5) (.k (.c (.bool false))), none⟩]
def c_bits_From : IC := (.seq (.ops o_bits_From_0) (.seq (.seq (.ops o_bits_From_1) (.block 0 (.rangeF (.t 8) [9] a_bits_From_5 b_bits_From_6))) (.seq (.ops o_bits_From_7) .ret)))
def i_bits_From : IFn := ⟨14, c_bits_From, [(4, (some none)), (5, (some none))]⟩

-- F 13 rota/rotaref12.From: bads 0, calls [14]
abbrev o_rotaref12_From_0 : List IOper := [⟨(some 4), .mv (.k (.c (.int .i64 0))), none⟩,
  ⟨(some 5), .mv (.k (.c (.bool false))), none⟩]
abbrev o_rotaref12_From_1 : List IOper := [⟨(some 8), .mv (.t 0), none⟩,
  ⟨(some 9), .call (.k (.c (.fn fn_rotaref12_Members [] []))) [(.t 8)], none⟩,
  ⟨(some 6), .mv (.t 9), none⟩]
abbrev o_rotaref12_From_2 : List IOper := [⟨(some 7), .mv (.k (.c (.int .i64 0))), none⟩]
abbrev o_rotaref12_From_3 : List IOper := [⟨(some 10), .mv (.t 7), none⟩,
  ⟨(some 11), .mv (.t 6), none⟩,
  ⟨(some 12), .len false (.t 11), none⟩,
  ⟨(some 13), .bin .lss (.t 10) (.t 12), none⟩]
abbrev o_rotaref12_From_4 : List IOper := [⟨(some 16), .mv (.t 6), none⟩,
  ⟨(some 17), .mv (.t 7), none⟩,
  ⟨(some 18), .iaS 1 (.t 16) (.t 17), none⟩,
  ⟨(some 19), .ld none (.t 18), none⟩,
  ⟨(some 20), .mv (.t 1), none⟩,
  ⟨(some 21), .bin .geq (.t 19) (.t 20), none⟩]
abbrev o_rotaref12_From_5 : List IOper := [⟨(some 22), .mv (.t 6), none⟩,
  ⟨(some 23), .mv (.t 7), none⟩,
  ⟨(some 24), .iaS 1 (.t 22) (.t 23), none⟩,
  ⟨(some 25), .ld none (.t 24), none⟩,
  ⟨(some 4), .mv (.t 25), none⟩,
  ⟨(some 5), .mv (.k (.c (.bool true))), none⟩]
abbrev o_rotaref12_From_6 : List IOper := [⟨(some 14), .mv (.t 7), none⟩,
  ⟨(some 15), .bin .add (.t 14) (.k (.c (.int .i64 1))), none⟩,
  ⟨(some 7), .mv (.t 15), none⟩]
def b_rotaref12_From_7 : IC := (.seq (.seq (.ops o_rotaref12_From_3) (.cond (.t 13) .skip (.exit 0))) (.seq (.block 1 (.seq (.ops o_rotaref12_From_4) (.cond (.t 21) (.seq (.ops o_rotaref12_From_5) .ret) .skip))) (.ops o_rotaref12_From_6)))
abbrev o_rotaref12_From_8 : List IOper := [⟨(some 4), .mv (.k (.c (.int .i64 0))), none⟩,
  ⟨(some 5), .mv (.k (.c (.bool false))), none⟩]
def c_rotaref12_From : IC := (.seq (.ops o_rotaref12_From_0) (.seq (.ops o_rotaref12_From_1) (.seq (.seq (.ops o_rotaref12_From_2) (.block 0 (.loop b_rotaref12_From_7))) (.seq (.ops o_rotaref12_From_8) .ret))))
def i_rotaref12_From : IFn := ⟨26, c_rotaref12_From, [(4, none), (5, none)]⟩

-- F 14 rota/rotaref12.Members: bads 0, calls [33]
abbrev o_rotaref12_Members_0 : List IOper := [⟨(some 2), .mv (.k (.c (.sl none 0 0 false))), none⟩]
abbrev o_rotaref12_Members_1 : List IOper := [⟨(some 6), .mv (.t 0), none⟩,
  ⟨(some 7), .call (.k (.c (.fn fn_rotaref12_Bools [] []))) [(.t 6)], none⟩,
  ⟨(some 3), .new 60 (.agg (List.replicate 64 (.bool false))), none⟩,
  ⟨none, .st 64 (.t 3) (.t 7), none⟩]
abbrev o_rotaref12_Members_2 : List IOper := [⟨(some 4), .mv (.k (.c (.sl none 0 0 false))), none⟩]
abbrev o_rotaref12_Members_3 : List IOper := [⟨(some 5), .mv (.k (.c (.int .i64 0))), none⟩]
abbrev o_rotaref12_Members_4 : List IOper := [⟨(some 8), .mv (.t 5), none⟩,
  ⟨(some 9), .bin .lss (.t 8) (.k (.c (.int .i64 64))), none⟩]
abbrev o_rotaref12_Members_5 : List IOper := [⟨(some 12), .mv (.t 5), none⟩,
  ⟨(some 13), .iaA 64 1 (.t 3) (.t 12), none⟩,
  ⟨(some 14), .ld none (.t 13), none⟩]
abbrev o_rotaref12_Members_6 : List IOper := [⟨(some 15), .mv (.t 4), none⟩,
  ⟨(some 16), .mv (.t 5), none⟩,
  ⟨(some 17), .bsl 3 1 [(.int .i64 0)] [(0, 1, (.t 16))], none⟩,
  ⟨(some 18), .app 3 1 8 (.t 15) (.t 17), none⟩,
  ⟨(some 4), .mv (.t 18), none⟩]
abbrev o_rotaref12_Members_7 : List IOper := [⟨(some 10), .mv (.t 5), none⟩,
  ⟨(some 11), .bin .add (.t 10) (.k (.c (.int .i64 1))), none⟩,
  ⟨(some 5), .mv (.t 11), none⟩]
def b_rotaref12_Members_8 : IC := (.seq (.seq (.ops o_rotaref12_Members_4) (.cond (.t 9) .skip (.exit 0))) (.seq (.block 1 (.seq (.ops o_rotaref12_Members_5) (.cond (.t 14) (.ops o_rotaref12_Members_6) .skip))) (.ops o_rotaref12_Members_7)))
abbrev o_rotaref12_Members_9 : List IOper := [⟨(some 19), .mv (.t 4), none⟩,
  ⟨(some 2), .mv (.t 19), none⟩]
def c_rotaref12_Members : IC := (.seq (.ops o_rotaref12_Members_0) (.seq (.ops o_rotaref12_Members_1) (.seq (.ops o_rotaref12_Members_2) (.seq (.seq (.ops o_rotaref12_Members_3) (.block 0 (.loop b_rotaref12_Members_8))) (.seq (.ops o_rotaref12_Members_9) .ret)))))
def i_rotaref12_Members : IFn := ⟨20, c_rotaref12_Members, [(2, none)]⟩

-- F 15 rota/bits.Members: bads 0, calls [32]
abbrev o_bits_Members_0 : List IOper := [⟨(some 2), .mv (.k (.c (.sl none 0 0 false))), none⟩]
abbrev o_bits_Members_1 : List IOper := [⟨(some 3), .new 28 (.c (.sl none 0 0 false)), none⟩]
abbrev o_bits_Members_2 : List IOper := [⟨(some 5), .mv (.t 0), none⟩,
  ⟨(some 6), .call (.k (.c (.fn fn_bits_all [] []))) [(.t 5)], none⟩]
abbrev o_bits_Members_3 : List IOper := [⟨(some 4), .mv (.t 7), none⟩]
abbrev o_bits_Members_4 : List IOper := [⟨(some 8), .ld none (.t 3), none⟩,
  ⟨(some 9), .mv (.t 4), none⟩,
  ⟨(some 10), .bsl 3 1 [(.int .i64 0)] [(0, 1, (.t 9))], none⟩,
  ⟨(some 11), .app 3 1 8 (.t 8) (.t 10), none⟩,
  ⟨none, .st 1 (.t 3) (.t 11), none⟩]
def a_bits_Members_5 : IC := (.ops o_bits_Members_3)
def b_bits_Members_6 : IC := (.block 1 (.ops o_bits_Members_4))
abbrev o_bits_Members_7 : List IOper := [⟨(some 12), .ld none (.t 3), none⟩,
  ⟨(some 2), .mv (.t 12), none⟩]
def c_bits_Members : IC := (.seq (.ops o_bits_Members_0) (.seq (.ops o_bits_Members_1) (.seq (.seq (.ops o_bits_Members_2) (.block 0 (.rangeF (.t 6) [7] a_bits_Members_5 b_bits_Members_6))) (.seq (.ops o_bits_Members_7) .ret))))
def i_bits_Members : IFn := ⟨13, c_bits_Members, [(2, none)]⟩

-- F 16 rota/bits.Runs: bads 0, calls [32]
abbrev o_bits_Runs_0 : List IOper := [⟨(some 2), .mv (.k (.c (.sl none 0 0 false))), none⟩]
abbrev o_bits_Runs_1 : List IOper := [⟨(some 3), .new 30 (.c (.sl none 0 0 false)), none⟩]
abbrev o_bits_Runs_2 : List IOper := [⟨(some 6), .mv (.t 0), none⟩,
  ⟨(some 7), .call (.k (.c (.fn fn_bits_all [] []))) [(.t 6)], none⟩]
abbrev o_bits_Runs_3 : List IOper := [⟨(some 4), .mv (.t 8), none⟩]
abbrev o_bits_Runs_4 : List IOper := [⟨(some 9), .ld none (.t 3), none⟩,
  ⟨(some 10), .len false (.t 9), none⟩,
  ⟨(some 5), .mv (.t 10), none⟩]
abbrev o_bits_Runs_5 : List IOper := [⟨(some 11), .mv (.t 5), none⟩,
  ⟨(some 12), .bin .gtr (.t 11) (.k (.c (.int .i64 0))), none⟩,
  ⟨(some 13), .mv (.t 12), none⟩,
  ⟨(some 14), .ld none (.t 3), some (13, true)⟩,
  ⟨(some 15), .mv (.t 5), some (13, true)⟩,
  ⟨(some 16), .bin .sub (.t 15) (.k (.c (.int .i64 1))), some (13, true)⟩,
  ⟨(some 17), .iaS 2 (.t 14) (.t 16), some (13, true)⟩,
  ⟨(some 18), .fa 1 (.t 17), some (13, true)⟩,
  ⟨(some 19), .ld none (.t 18), some (13, true)⟩,
  ⟨(some 20), .mv (.t 4), some (13, true)⟩,
  ⟨(some 21), .bin .eql (.t 19) (.t 20), some (13, true)⟩,
  ⟨(some 22), .pick (.t 13) (.t 21) (.k (.c (.bool false))), none⟩]
abbrev o_bits_Runs_6 : List IOper := [⟨(some 23), .ld none (.t 3), none⟩,
  ⟨(some 24), .mv (.t 5), none⟩,
  ⟨(some 25), .bin .sub (.t 24) (.k (.c (.int .i64 1))), none⟩,
  ⟨(some 26), .iaS 2 (.t 23) (.t 25), none⟩,
  ⟨(some 27), .fa 1 (.t 26), none⟩,
  ⟨(some 28), .ld none (.t 27), none⟩,
  ⟨(some 29), .bin .add (.t 28) (.k (.c (.int .i64 1))), none⟩,
  ⟨(some 30), .iaS 2 (.t 23) (.t 25), none⟩,
  ⟨(some 31), .fa 1 (.t 30), none⟩,
  ⟨none, .st 1 (.t 31) (.t 29), none⟩]
abbrev o_bits_Runs_7 : List IOper := [⟨(some 32), .ld none (.t 3), none⟩,
  ⟨(some 33), .mv (.t 4), none⟩,
  ⟨(some 34), .mv (.t 4), none⟩,
  ⟨(some 35), .bin .add (.t 34) (.k (.c (.int .i64 1))), none⟩,
  ⟨(some 36), .build [(.int .i64 0), (.int .i64 0)] [(0, 1, (.t 33)), (1, 1, (.t 35))], none⟩,
  ⟨(some 37), .bsl 52 1 [(.int .i64 0), (.int .i64 0)] [(0, 2, (.t 36))], none⟩,
  ⟨(some 38), .app 52 2 16 (.t 32) (.t 37), none⟩,
  ⟨none, .st 1 (.t 3) (.t 38), none⟩]
def a_bits_Runs_8 : IC := (.ops o_bits_Runs_3)
def b_bits_Runs_9 : IC := (.block 1 (.seq (.seq (.ops o_bits_Runs_4) (.seq (.ops o_bits_Runs_5) (.cond (.t 22) (.seq (.ops o_bits_Runs_6) (.exit 1)) .skip))) (.ops o_bits_Runs_7)))
abbrev o_bits_Runs_10 : List IOper := [⟨(some 39), .ld none (.t 3), none⟩,
  ⟨(some 2), .mv (.t 39), none⟩]
def c_bits_Runs : IC := (.seq (.ops o_bits_Runs_0) (.seq .skip (.seq (.ops o_bits_Runs_1) (.seq .skip (.seq (.seq (.ops o_bits_Runs_2) (.block 0 (.rangeF (.t 7) [8] a_bits_Runs_8 b_bits_Runs_9))) (.seq (.ops o_bits_Runs_10) .ret))))))
def i_bits_Runs : IFn := ⟨40, c_bits_Runs, [(2, none)]⟩

-- F 17 rota/rotaref12.Ints: bads 0, calls []
abbrev o_rotaref12_Ints_0 : List IOper := [⟨(some 4), .mv (.k (.c (.bool false))), none⟩]
abbrev o_rotaref12_Ints_1 : List IOper := [⟨(some 6), .mv (.t 0), none⟩,
  ⟨(some 7), .len false (.t 6), none⟩,
  ⟨(some 8), .mv (.t 1), none⟩,
  ⟨(some 9), .len false (.t 8), none⟩,
  ⟨(some 10), .bin .neq (.t 7) (.t 9), none⟩]
abbrev o_rotaref12_Ints_2 : List IOper := [⟨(some 4), .mv (.k (.c (.bool false))), none⟩]
abbrev o_rotaref12_Ints_3 : List IOper := [⟨(some 5), .mv (.k (.c (.int .i64 0))), none⟩]
abbrev o_rotaref12_Ints_4 : List IOper := [⟨(some 11), .mv (.t 5), none⟩,
  ⟨(some 12), .mv (.t 0), none⟩,
  ⟨(some 13), .len false (.t 12), none⟩,
  ⟨(some 14), .bin .lss (.t 11) (.t 13), none⟩]
abbrev o_rotaref12_Ints_5 : List IOper := [⟨(some 17), .mv (.t 0), none⟩,
  ⟨(some 18), .mv (.t 5), none⟩,
  ⟨(some 19), .iaS 1 (.t 17) (.t 18), none⟩,
  ⟨(some 20), .ld none (.t 19), none⟩,
  ⟨(some 21), .mv (.t 1), none⟩,
  ⟨(some 22), .mv (.t 5), none⟩,
  ⟨(some 23), .iaS 1 (.t 21) (.t 22), none⟩,
  ⟨(some 24), .ld none (.t 23), none⟩,
  ⟨(some 25), .bin .neq (.t 20) (.t 24), none⟩]
abbrev o_rotaref12_Ints_6 : List IOper := [⟨(some 4), .mv (.k (.c (.bool false))), none⟩]
abbrev o_rotaref12_Ints_7 : List IOper := [⟨(some 15), .mv (.t 5), none⟩,
  ⟨(some 16), .bin .add (.t 15) (.k (.c (.int .i64 1))), none⟩,
  ⟨(some 5), .mv (.t 16), none⟩]
def b_rotaref12_Ints_8 : IC := (.seq (.seq (.ops o_rotaref12_Ints_4) (.cond (.t 14) .skip (.exit 0))) (.seq (.block 1 (.seq (.ops o_rotaref12_Ints_5) (.cond (.t 25) (.seq (.ops o_rotaref12_Ints_6) .ret) .skip))) (.ops o_rotaref12_Ints_7)))
abbrev o_rotaref12_Ints_9 : List IOper := [⟨(some 4), .mv (.k (.c (.bool true))), none⟩]
def c_rotaref12_Ints : IC := (.seq (.ops o_rotaref12_Ints_0) (.seq (.seq (.ops o_rotaref12_Ints_1) (.cond (.t 10) (.seq (.ops o_rotaref12_Ints_2) .ret) .skip)) (.seq (.seq (.ops o_rotaref12_Ints_3) (.block 0 (.loop b_rotaref12_Ints_8))) (.seq (.ops o_rotaref12_Ints_9) .ret))))
def i_rotaref12_Ints : IFn := ⟨26, c_rotaref12_Ints, [(4, none)]⟩

-- F 18 rota/bits.Size: bads 0, calls [34]
abbrev o_bits_Size_0 : List IOper := [⟨(some 2), .mv (.k (.c (.int .i64 0))), none⟩]
abbrev o_bits_Size_1 : List IOper := [⟨(some 3), .mv (.t 0), none⟩,
  ⟨(some 4), .call (.k (.c (.fn fn_bits_OnesCount64 [] []))) [(.t 3)], none⟩,
  ⟨(some 2), .mv (.t 4), none⟩]
def c_bits_Size : IC := (.seq (.ops o_bits_Size_0) (.seq (.ops o_bits_Size_1) .ret))
def i_bits_Size : IFn := ⟨5, c_bits_Size, [(2, none)]⟩

-- F 19 rota/bits.Has: bads 0, calls []
abbrev o_bits_Has_0 : List IOper := [⟨(some 4), .mv (.k (.c (.bool false))), none⟩]
abbrev o_bits_Has_1 : List IOper := [⟨(some 5), .mv (.t 1), none⟩,
  ⟨(some 6), .bin .geq (.t 5) (.k (.c (.int .i64 0))), none⟩,
  ⟨(some 7), .mv (.t 6), none⟩,
  ⟨(some 8), .mv (.t 1), some (7, true)⟩,
  ⟨(some 9), .bin .lss (.t 8) (.k (.c (.int .i64 64))), some (7, true)⟩,
  ⟨(some 10), .pick (.t 7) (.t 9) (.k (.c (.bool false))), none⟩,
  ⟨(some 11), .mv (.t 10), none⟩,
  ⟨(some 12), .mv (.t 0), some (11, true)⟩,
  ⟨(some 13), .mv (.t 1), some (11, true)⟩,
  ⟨(some 14), .bin .shr (.t 12) (.t 13), some (11, true)⟩,
  ⟨(some 15), .bin .and (.t 14) (.k (.c (.int .u64 1))), some (11, true)⟩,
  ⟨(some 16), .bin .eql (.t 15) (.k (.c (.int .u64 1))), some (11, true)⟩,
  ⟨(some 17), .pick (.t 11) (.t 16) (.k (.c (.bool false))), none⟩,
  ⟨(some 4), .mv (.t 17), none⟩]
def c_bits_Has : IC := (.seq (.ops o_bits_Has_0) (.seq (.ops o_bits_Has_1) .ret))
def i_bits_Has : IFn := ⟨18, c_bits_Has, [(4, none)]⟩

-- F 20 rota/rotaref12.Majority: bads 0, calls [33, 33]
abbrev o_rotaref12_Majority_0 : List IOper := [⟨(some 4), .mv (.k (.c (.bool false))), none⟩]
abbrev o_rotaref12_Majority_1 : List IOper := [⟨(some 10), .mv (.t 0), none⟩,
  ⟨(some 11), .call (.k (.c (.fn fn_rotaref12_Bools [] []))) [(.t 10)], none⟩,
  ⟨(some 5), .new 60 (.agg (List.replicate 64 (.bool false))), none⟩,
  ⟨none, .st 64 (.t 5) (.t 11), none⟩]
abbrev o_rotaref12_Majority_2 : List IOper := [⟨(some 12), .mv (.t 1), none⟩,
  ⟨(some 13), .call (.k (.c (.fn fn_rotaref12_Bools [] []))) [(.t 12)], none⟩,
  ⟨(some 6), .new 60 (.agg (List.replicate 64 (.bool false))), none⟩,
  ⟨none, .st 64 (.t 6) (.t 13), none⟩]
abbrev o_rotaref12_Majority_3 : List IOper := [⟨(some 7), .mv (.k (.c (.int .i64 0))), none⟩]
abbrev o_rotaref12_Majority_4 : List IOper := [⟨(some 8), .mv (.k (.c (.int .i64 0))), none⟩]
abbrev o_rotaref12_Majority_5 : List IOper := [⟨(some 9), .mv (.k (.c (.int .i64 0))), none⟩]
abbrev o_rotaref12_Majority_6 : List IOper := [⟨(some 14), .mv (.t 9), none⟩,
  ⟨(some 15), .bin .lss (.t 14) (.k (.c (.int .i64 64))), none⟩]
abbrev o_rotaref12_Majority_7 : List IOper := [⟨(some 18), .mv (.t 9), none⟩,
  ⟨(some 19), .iaA 64 1 (.t 6) (.t 18), none⟩,
  ⟨(some 20), .ld none (.t 19), none⟩,
  ⟨(some 21), .mv (.t 20), none⟩,
  ⟨(some 22), .mv (.t 9), some (21, true)⟩,
  ⟨(some 23), .iaA 64 1 (.t 5) (.t 22), some (21, true)⟩,
  ⟨(some 24), .ld none (.t 23), some (21, true)⟩,
  ⟨(some 25), .pick (.t 21) (.t 24) (.k (.c (.bool false))), none⟩]
abbrev o_rotaref12_Majority_8 : List IOper := [⟨(some 26), .mv (.t 7), none⟩,
  ⟨(some 27), .bin .add (.t 26) (.k (.c (.int .i64 1))), none⟩,
  ⟨(some 7), .mv (.t 27), none⟩]
abbrev o_rotaref12_Majority_9 : List IOper := [⟨(some 28), .mv (.t 9), none⟩,
  ⟨(some 29), .iaA 64 1 (.t 6) (.t 28), none⟩,
  ⟨(some 30), .ld none (.t 29), none⟩,
  ⟨(some 31), .mv (.t 30), none⟩,
  ⟨(some 32), .mv (.t 9), some (31, true)⟩,
  ⟨(some 33), .iaA 64 1 (.t 5) (.t 32), some (31, true)⟩,
  ⟨(some 34), .ld none (.t 33), some (31, true)⟩,
  ⟨(some 35), .un .not (.t 34), some (31, true)⟩,
  ⟨(some 36), .pick (.t 31) (.t 35) (.k (.c (.bool false))), none⟩]
abbrev o_rotaref12_Majority_10 : List IOper := [⟨(some 37), .mv (.t 8), none⟩,
  ⟨(some 38), .bin .add (.t 37) (.k (.c (.int .i64 1))), none⟩,
  ⟨(some 8), .mv (.t 38), none⟩]
abbrev o_rotaref12_Majority_11 : List IOper := [⟨(some 16), .mv (.t 9), none⟩,
  ⟨(some 17), .bin .add (.t 16) (.k (.c (.int .i64 1))), none⟩,
  ⟨(some 9), .mv (.t 17), none⟩]
def b_rotaref12_Majority_12 : IC := (.seq (.seq (.ops o_rotaref12_Majority_6) (.cond (.t 15) .skip (.exit 0))) (.seq (.block 1 (.seq (.seq (.ops o_rotaref12_Majority_7) (.cond (.t 25) (.ops o_rotaref12_Majority_8) .skip)) (.seq (.ops o_rotaref12_Majority_9) (.cond (.t 36) (.ops o_rotaref12_Majority_10) .skip)))) (.ops o_rotaref12_Majority_11)))
abbrev o_rotaref12_Majority_13 : List IOper := [⟨(some 39), .mv (.t 7), none⟩,
  ⟨(some 40), .mv (.t 8), none⟩,
  ⟨(some 41), .bin .gtr (.t 39) (.t 40), none⟩,
  ⟨(some 4), .mv (.t 41), none⟩]
def c_rotaref12_Majority : IC := (.seq (.ops o_rotaref12_Majority_0) (.seq (.ops o_rotaref12_Majority_1) (.seq (.ops o_rotaref12_Majority_2) (.seq (.ops o_rotaref12_Majority_3) (.seq (.ops o_rotaref12_Majority_4) (.seq (.seq (.ops o_rotaref12_Majority_5) (.block 0 (.loop b_rotaref12_Majority_12))) (.seq (.ops o_rotaref12_Majority_13) .ret)))))))
def i_rotaref12_Majority : IFn := ⟨42, c_rotaref12_Majority, [(4, none)]⟩

-- F 21 rota/rotaref12.Spans: bads 0, calls []
abbrev o_rotaref12_Spans_0 : List IOper := [⟨(some 4), .mv (.k (.c (.bool false))), none⟩]
abbrev o_rotaref12_Spans_1 : List IOper := [⟨(some 6), .mv (.t 0), none⟩,
  ⟨(some 7), .len false (.t 6), none⟩,
  ⟨(some 8), .mv (.t 1), none⟩,
  ⟨(some 9), .len false (.t 8), none⟩,
  ⟨(some 10), .bin .neq (.t 7) (.t 9), none⟩]
abbrev o_rotaref12_Spans_2 : List IOper := [⟨(some 4), .mv (.k (.c (.bool false))), none⟩]
abbrev o_rotaref12_Spans_3 : List IOper := [⟨(some 5), .mv (.k (.c (.int .i64 0))), none⟩]
abbrev o_rotaref12_Spans_4 : List IOper := [⟨(some 11), .mv (.t 5), none⟩,
  ⟨(some 12), .mv (.t 0), none⟩,
  ⟨(some 13), .len false (.t 12), none⟩,
  ⟨(some 14), .bin .lss (.t 11) (.t 13), none⟩]
abbrev o_rotaref12_Spans_5 : List IOper := [⟨(some 17), .mv (.t 0), none⟩,
  ⟨(some 18), .mv (.t 5), none⟩,
  ⟨(some 19), .iaS 2 (.t 17) (.t 18), none⟩,
  ⟨(some 20), .ld (some 2) (.t 19), none⟩,
  ⟨(some 21), .mv (.t 1), none⟩,
  ⟨(some 22), .mv (.t 5), none⟩,
  ⟨(some 23), .iaS 2 (.t 21) (.t 22), none⟩,
  ⟨(some 24), .ld (some 2) (.t 23), none⟩,
  ⟨(some 25), .eqagg [.int, .int] true (.t 20) (.t 24), none⟩]
abbrev o_rotaref12_Spans_6 : List IOper := [⟨(some 4), .mv (.k (.c (.bool false))), none⟩]
abbrev o_rotaref12_Spans_7 : List IOper := [⟨(some 15), .mv (.t 5), none⟩,
  ⟨(some 16), .bin .add (.t 15) (.k (.c (.int .i64 1))), none⟩,
  ⟨(some 5), .mv (.t 16), none⟩]
def b_rotaref12_Spans_8 : IC := (.seq (.seq (.ops o_rotaref12_Spans_4) (.cond (.t 14) .skip (.exit 0))) (.seq (.block 1 (.seq (.ops o_rotaref12_Spans_5) (.cond (.t 25) (.seq (.ops o_rotaref12_Spans_6) .ret) .skip))) (.ops o_rotaref12_Spans_7)))
abbrev o_rotaref12_Spans_9 : List IOper := [⟨(some 4), .mv (.k (.c (.bool true))), none⟩]
def c_rotaref12_Spans : IC := (.seq (.ops o_rotaref12_Spans_0) (.seq (.seq (.ops o_rotaref12_Spans_1) (.cond (.t 10) (.seq (.ops o_rotaref12_Spans_2) .ret) .skip)) (.seq (.seq (.ops o_rotaref12_Spans_3) (.block 0 (.loop b_rotaref12_Spans_8))) (.seq (.ops o_rotaref12_Spans_9) .ret))))
def i_rotaref12_Spans : IFn := ⟨26, c_rotaref12_Spans, [(4, none)]⟩

-- F 22 rota/rotaref12.Runs: bads 0, calls [33]
abbrev o_rotaref12_Runs_0 : List IOper := [⟨(some 2), .mv (.k (.c (.sl none 0 0 false))), none⟩]
abbrev o_rotaref12_Runs_1 : List IOper := [⟨(some 9), .mv (.t 0), none⟩,
  ⟨(some 10), .call (.k (.c (.fn fn_rotaref12_Bools [] []))) [(.t 9)], none⟩,
  ⟨(some 3), .new 60 (.agg (List.replicate 64 (.bool false))), none⟩,
  ⟨none, .st 64 (.t 3) (.t 10), none⟩]
abbrev o_rotaref12_Runs_2 : List IOper := [⟨(some 4), .mv (.k (.c (.sl none 0 0 false))), none⟩]
abbrev o_rotaref12_Runs_3 : List IOper := [⟨(some 5), .mv (.k (.c (.int .i64 0))), none⟩]
abbrev o_rotaref12_Runs_4 : List IOper := [⟨(some 6), .mv (.k (.c (.int .i64 0))), none⟩]
abbrev o_rotaref12_Runs_5 : List IOper := [⟨(some 11), .mv (.t 6), none⟩,
  ⟨(some 12), .bin .lss (.t 11) (.k (.c (.int .i64 64))), none⟩]
abbrev o_rotaref12_Runs_6 : List IOper := [⟨(some 15), .mv (.t 6), none⟩,
  ⟨(some 16), .bin .gtr (.t 15) (.k (.c (.int .i64 0))), none⟩,
  ⟨(some 17), .mv (.t 16), none⟩,
  ⟨(some 18), .mv (.t 6), some (17, true)⟩,
  ⟨(some 19), .bin .sub (.t 18) (.k (.c (.int .i64 1))), some (17, true)⟩,
  ⟨(some 20), .iaA 64 1 (.t 3) (.t 19), some (17, true)⟩,
  ⟨(some 21), .ld none (.t 20), some (17, true)⟩,
  ⟨(some 22), .pick (.t 17) (.t 21) (.k (.c (.bool false))), none⟩,
  ⟨(some 7), .mv (.t 22), none⟩]
abbrev o_rotaref12_Runs_7 : List IOper := [⟨(some 23), .mv (.t 6), none⟩,
  ⟨(some 24), .bin .lss (.t 23) (.k (.c (.int .i64 63))), none⟩,
  ⟨(some 25), .mv (.t 24), none⟩,
  ⟨(some 26), .mv (.t 6), some (25, true)⟩,
  ⟨(some 27), .bin .add (.t 26) (.k (.c (.int .i64 1))), some (25, true)⟩,
  ⟨(some 28), .iaA 64 1 (.t 3) (.t 27), some (25, true)⟩,
  ⟨(some 29), .ld none (.t 28), some (25, true)⟩,
  ⟨(some 30), .pick (.t 25) (.t 29) (.k (.c (.bool false))), none⟩,
  ⟨(some 8), .mv (.t 30), none⟩]
abbrev o_rotaref12_Runs_8 : List IOper := [⟨(some 31), .mv (.t 6), none⟩,
  ⟨(some 32), .iaA 64 1 (.t 3) (.t 31), none⟩,
  ⟨(some 33), .ld none (.t 32), none⟩,
  ⟨(some 34), .mv (.t 33), none⟩,
  ⟨(some 35), .mv (.t 7), some (34, true)⟩,
  ⟨(some 36), .un .not (.t 35), some (34, true)⟩,
  ⟨(some 37), .pick (.t 34) (.t 36) (.k (.c (.bool false))), none⟩]
abbrev o_rotaref12_Runs_9 : List IOper := [⟨(some 38), .mv (.t 6), none⟩,
  ⟨(some 5), .mv (.t 38), none⟩]
abbrev o_rotaref12_Runs_10 : List IOper := [⟨(some 39), .mv (.t 6), none⟩,
  ⟨(some 40), .iaA 64 1 (.t 3) (.t 39), none⟩,
  ⟨(some 41), .ld none (.t 40), none⟩,
  ⟨(some 42), .mv (.t 41), none⟩,
  ⟨(some 43), .mv (.t 8), some (42, true)⟩,
  ⟨(some 44), .un .not (.t 43), some (42, true)⟩,
  ⟨(some 45), .pick (.t 42) (.t 44) (.k (.c (.bool false))), none⟩]
abbrev o_rotaref12_Runs_11 : List IOper := [⟨(some 46), .mv (.t 4), none⟩,
  ⟨(some 47), .mv (.t 5), none⟩,
  ⟨(some 48), .mv (.t 6), none⟩,
  ⟨(some 49), .bin .add (.t 48) (.k (.c (.int .i64 1))), none⟩,
  ⟨(some 50), .build [(.int .i64 0), (.int .i64 0)] [(0, 1, (.t 47)), (1, 1, (.t 49))], none⟩,
  ⟨(some 51), .bsl 52 1 [(.int .i64 0), (.int .i64 0)] [(0, 2, (.t 50))], none⟩,
  ⟨(some 52), .app 52 2 16 (.t 46) (.t 51), none⟩,
  ⟨(some 4), .mv (.t 52), none⟩]
abbrev o_rotaref12_Runs_12 : List IOper := [⟨(some 13), .mv (.t 6), none⟩,
  ⟨(some 14), .bin .add (.t 13) (.k (.c (.int .i64 1))), none⟩,
  ⟨(some 6), .mv (.t 14), none⟩]
def b_rotaref12_Runs_13 : IC := (.seq (.seq (.ops o_rotaref12_Runs_5) (.cond (.t 12) .skip (.exit 0))) (.seq (.block 1 (.seq (.ops o_rotaref12_Runs_6) (.seq (.ops o_rotaref12_Runs_7) (.seq (.seq (.ops o_rotaref12_Runs_8) (.cond (.t 37) (.ops o_rotaref12_Runs_9) .skip)) (.seq (.ops o_rotaref12_Runs_10) (.cond (.t 45) (.ops o_rotaref12_Runs_11) .skip)))))) (.ops o_rotaref12_Runs_12)))
abbrev o_rotaref12_Runs_14 : List IOper := [⟨(some 53), .mv (.t 4), none⟩,
  ⟨(some 2), .mv (.t 53), none⟩]
def c_rotaref12_Runs : IC := (.seq (.ops o_rotaref12_Runs_0) (.seq (.ops o_rotaref12_Runs_1) (.seq (.ops o_rotaref12_Runs_2) (.seq (.ops o_rotaref12_Runs_3) (.seq (.seq (.ops o_rotaref12_Runs_4) (.block 0 (.loop b_rotaref12_Runs_13))) (.seq (.ops o_rotaref12_Runs_14) .ret))))))
def i_rotaref12_Runs : IFn := ⟨54, c_rotaref12_Runs, [(2, none)]⟩

-- F 23 rota/bits.Subsets: bads 0, calls [35]
abbrev o_bits_Subsets_0 : List IOper := [⟨(some 4), .mv (.k (.c (.int .u64 0))), none⟩,
  ⟨(some 5), .mv (.k (.c (.int .i64 0))), none⟩]
abbrev o_bits_Subsets_1 : List IOper := [⟨(some 6), .mv (.t 0), none⟩,
  ⟨(some 7), .bin .lss (.t 6) (.k (.c (.int .i64 0))), none⟩,
  ⟨(some 8), .mv (.t 7), none⟩,
  ⟨(some 9), .mv (.t 0), some (8, false)⟩,
  ⟨(some 10), .bin .gtr (.t 9) (.k (.c (.int .i64 60))), some (8, false)⟩,
  ⟨(some 11), .pick (.t 8) (.k (.c (.bool true))) (.t 10), none⟩]
abbrev o_bits_Subsets_2 : List IOper := [⟨(some 4), .mv (.k (.c (.int .u64 0))), none⟩,
  ⟨(some 5), .mv (.k (.c (.int .i64 120))), none⟩]
abbrev o_bits_Subsets_3 : List IOper := [⟨(some 12), .mv (.t 1), none⟩,
  ⟨(some 13), .bin .lss (.t 12) (.k (.c (.int .i64 0))), none⟩,
  ⟨(some 14), .mv (.t 13), none⟩,
  ⟨(some 15), .mv (.t 1), some (14, false)⟩,
  ⟨(some 16), .mv (.t 0), some (14, false)⟩,
  ⟨(some 17), .bin .gtr (.t 15) (.t 16), some (14, false)⟩,
  ⟨(some 18), .pick (.t 14) (.k (.c (.bool true))) (.t 17), none⟩]
abbrev o_bits_Subsets_4 : List IOper := [⟨(some 4), .mv (.k (.c (.int .u64 0))), none⟩,
  ⟨(some 5), .mv (.k (.c (.int .i64 0))), none⟩]
abbrev o_bits_Subsets_5 : List IOper := [⟨(some 19), .call (.k (.c (.fn fn_bits_table [] []))) [], none⟩,
  ⟨(some 20), .mv (.t 0), none⟩,
  ⟨(some 21), .ix 61 62 (some 62) (.t 19) (.t 20), none⟩,
  ⟨(some 22), .mv (.t 1), none⟩,
  ⟨(some 23), .ix 62 1 none (.t 21) (.t 22), none⟩,
  ⟨(some 4), .mv (.t 23), none⟩,
  ⟨(some 5), .mv (.k (.c (.int .i64 0))), none⟩]
def c_bits_Subsets : IC := (.seq (.ops o_bits_Subsets_0) (.seq (.seq (.ops o_bits_Subsets_1) (.cond (.t 11) (.seq (.ops o_bits_Subsets_2) .ret) .skip)) (.seq (.seq (.ops o_bits_Subsets_3) (.cond (.t 18) (.seq (.ops o_bits_Subsets_4) .ret) .skip)) (.seq (.ops o_bits_Subsets_5) .ret))))
def i_bits_Subsets : IFn := ⟨24, c_bits_Subsets, [(4, none), (5, none)]⟩

-- F 24 rota/rotaref12.Subsets: bads 0, calls []
abbrev o_rotaref12_Subsets_0 : List IOper := [⟨(some 4), .mv (.k (.c (.int .u64 0))), none⟩,
  ⟨(some 5), .mv (.k (.c (.int .i64 0))), none⟩]
abbrev o_rotaref12_Subsets_1 : List IOper := [⟨(some 8), .mv (.t 0), none⟩,
  ⟨(some 9), .bin .lss (.t 8) (.k (.c (.int .i64 0))), none⟩,
  ⟨(some 10), .mv (.t 9), none⟩,
  ⟨(some 11), .mv (.t 0), some (10, false)⟩,
  ⟨(some 12), .bin .gtr (.t 11) (.k (.c (.int .i64 60))), some (10, false)⟩,
  ⟨(some 13), .pick (.t 10) (.k (.c (.bool true))) (.t 12), none⟩]
abbrev o_rotaref12_Subsets_2 : List IOper := [⟨(some 4), .mv (.k (.c (.int .u64 0))), none⟩,
  ⟨(some 5), .mv (.k (.c (.int .i64 120))), none⟩]
abbrev o_rotaref12_Subsets_3 : List IOper := [⟨(some 14), .mv (.t 1), none⟩,
  ⟨(some 15), .bin .lss (.t 14) (.k (.c (.int .i64 0))), none⟩,
  ⟨(some 16), .mv (.t 15), none⟩,
  ⟨(some 17), .mv (.t 1), some (16, false)⟩,
  ⟨(some 18), .mv (.t 0), some (16, false)⟩,
  ⟨(some 19), .bin .gtr (.t 17) (.t 18), some (16, false)⟩,
  ⟨(some 20), .pick (.t 16) (.k (.c (.bool true))) (.t 19), none⟩]
abbrev o_rotaref12_Subsets_4 : List IOper := [⟨(some 4), .mv (.k (.c (.int .u64 0))), none⟩,
  ⟨(some 5), .mv (.k (.c (.int .i64 0))), none⟩]
abbrev o_rotaref12_Subsets_5 : List IOper := [⟨(some 6), .mv (.k (.c (.int .u64 1))), none⟩]
abbrev o_rotaref12_Subsets_6 : List IOper := [⟨(some 7), .mv (.k (.c (.int .i64 0))), none⟩]
abbrev o_rotaref12_Subsets_7 : List IOper := [⟨(some 21), .mv (.t 7), none⟩,
  ⟨(some 22), .mv (.t 1), none⟩,
  ⟨(some 23), .bin .lss (.t 21) (.t 22), none⟩]
abbrev o_rotaref12_Subsets_8 : List IOper := [⟨(some 26), .mv (.t 6), none⟩,
  ⟨(some 27), .mv (.t 0), none⟩,
  ⟨(some 28), .mv (.t 7), none⟩,
  ⟨(some 29), .bin .sub (.t 27) (.t 28), none⟩,
  ⟨(some 30), .cv .u64 (.t 29), none⟩,
  ⟨(some 31), .bin .mul (.t 26) (.t 30), none⟩,
  ⟨(some 32), .mv (.t 7), none⟩,
  ⟨(some 33), .bin .add (.t 32) (.k (.c (.int .i64 1))), none⟩,
  ⟨(some 34), .cv .u64 (.t 33), none⟩,
  ⟨(some 35), .bin .quo (.t 31) (.t 34), none⟩,
  ⟨(some 6), .mv (.t 35), none⟩]
abbrev o_rotaref12_Subsets_9 : List IOper := [⟨(some 24), .mv (.t 7), none⟩,
  ⟨(some 25), .bin .add (.t 24) (.k (.c (.int .i64 1))), none⟩,
  ⟨(some 7), .mv (.t 25), none⟩]
def b_rotaref12_Subsets_10 : IC := (.seq (.seq (.ops o_rotaref12_Subsets_7) (.cond (.t 23) .skip (.exit 0))) (.seq (.block 1 (.ops o_rotaref12_Subsets_8)) (.ops o_rotaref12_Subsets_9)))
abbrev o_rotaref12_Subsets_11 : List IOper := [⟨(some 36), .mv (.t 6), none⟩,
  ⟨(some 4), .mv (.t 36), none⟩,
  ⟨(some 5), .mv (.k (.c (.int .i64 0))), none⟩]
def c_rotaref12_Subsets : IC := (.seq (.ops o_rotaref12_Subsets_0) (.seq (.seq (.ops o_rotaref12_Subsets_1) (.cond (.t 13) (.seq (.ops o_rotaref12_Subsets_2) .ret) .skip)) (.seq (.seq (.ops o_rotaref12_Subsets_3) (.cond (.t 20) (.seq (.ops o_rotaref12_Subsets_4) .ret) .skip)) (.seq (.ops o_rotaref12_Subsets_5) (.seq (.seq (.ops o_rotaref12_Subsets_6) (.block 0 (.loop b_rotaref12_Subsets_10))) (.seq (.ops o_rotaref12_Subsets_11) .ret))))))
def i_rotaref12_Subsets : IFn := ⟨37, c_rotaref12_Subsets, [(4, none), (5, none)]⟩

-- F 25 rota/bits.Rank: bads 0, calls [35, 32]
abbrev o_bits_Rank_0 : List IOper := [⟨(some 2), .mv (.k (.c (.int .u64 0))), none⟩,
  ⟨(some 3), .mv (.k (.c (.int .i64 0))), none⟩]
abbrev o_bits_Rank_1 : List IOper := [⟨(some 8), .mv (.t 0), none⟩,
  ⟨(some 9), .bin .shr (.t 8) (.k (.c (.int .u64 60))), none⟩,
  ⟨(some 10), .bin .neq (.t 9) (.k (.c (.int .u64 0))), none⟩]
abbrev o_bits_Rank_2 : List IOper := [⟨(some 2), .mv (.k (.c (.int .u64 0))), none⟩,
  ⟨(some 3), .mv (.k (.c (.int .i64 120))), none⟩]
abbrev o_bits_Rank_3 : List IOper := [⟨(some 11), .call (.k (.c (.fn fn_bits_table [] []))) [], none⟩,
  ⟨(some 4), .new 63 (.agg (List.replicate 3782 (.int .u64 0))), none⟩,
  ⟨none, .st 3782 (.t 4) (.t 11), none⟩]
abbrev o_bits_Rank_4 : List IOper := [⟨(some 5), .new 22 (.c (.int .u64 0)), none⟩,
  ⟨(some 6), .new 3 (.c (.int .i64 0)), none⟩,
  ⟨none, .st 1 (.t 5) (.k (.c (.int .u64 0))), none⟩,
  ⟨none, .st 1 (.t 6) (.k (.c (.int .i64 0))), none⟩]
abbrev o_bits_Rank_5 : List IOper := [⟨(some 12), .mv (.t 0), none⟩,
  ⟨(some 13), .call (.k (.c (.fn fn_bits_all [] []))) [(.t 12)], none⟩]
abbrev o_bits_Rank_6 : List IOper := [⟨(some 7), .mv (.t 14), none⟩]
abbrev o_bits_Rank_7 : List IOper := [⟨(some 15), .ld none (.t 6), none⟩,
  ⟨(some 16), .bin .add (.t 15) (.k (.c (.int .i64 1))), none⟩,
  ⟨none, .st 1 (.t 6) (.t 16), none⟩]
abbrev o_bits_Rank_8 : List IOper := [⟨(some 17), .ld none (.t 5), none⟩,
  ⟨(some 18), .mv (.t 7), none⟩,
  ⟨(some 19), .ld none (.t 6), none⟩,
  ⟨(some 20), .iaA 61 62 (.t 4) (.t 18), none⟩,
  ⟨(some 21), .iaA 62 1 (.t 20) (.t 19), none⟩,
  ⟨(some 22), .ld none (.t 21), none⟩,
  ⟨(some 23), .bin .add (.t 17) (.t 22), none⟩,
  ⟨none, .st 1 (.t 5) (.t 23), none⟩]
def a_bits_Rank_9 : IC := (.ops o_bits_Rank_6)
def b_bits_Rank_10 : IC := (.block 1 (.seq (.ops o_bits_Rank_7) (.ops o_bits_Rank_8)))
abbrev o_bits_Rank_11 : List IOper := [⟨(some 24), .ld none (.t 5), none⟩,
  ⟨(some 2), .mv (.t 24), none⟩,
  ⟨(some 3), .mv (.k (.c (.int .i64 0))), none⟩]
def c_bits_Rank : IC := (.seq (.ops o_bits_Rank_0) (.seq (.seq (.ops o_bits_Rank_1) (.cond (.t 10) (.seq (.ops o_bits_Rank_2) .ret) .skip)) (.seq (.ops o_bits_Rank_3) (.seq (.ops o_bits_Rank_4) (.seq (.seq (.ops o_bits_Rank_5) (.block 0 (.rangeF (.t 13) [14] a_bits_Rank_9 b_bits_Rank_10))) (.seq (.ops o_bits_Rank_11) .ret))))))
def i_bits_Rank : IFn := ⟨25, c_bits_Rank, [(2, none), (3, none)]⟩

-- F 26 rota/rotaref12.Rank: bads 0, calls [14, 24]
abbrev o_rotaref12_Rank_0 : List IOper := [⟨(some 2), .mv (.k (.c (.int .u64 0))), none⟩,
  ⟨(some 3), .mv (.k (.c (.int .i64 0))), none⟩]
abbrev o_rotaref12_Rank_1 : List IOper := [⟨(some 9), .mv (.t 0), none⟩,
  ⟨(some 10), .call (.k (.c (.fn fn_rotaref12_Members [] []))) [(.t 9)], none⟩,
  ⟨(some 4), .mv (.t 10), none⟩]
abbrev o_rotaref12_Rank_2 : List IOper := [⟨(some 5), .mv (.k (.c (.int .u64 0))), none⟩]
abbrev o_rotaref12_Rank_3 : List IOper := [⟨(some 6), .mv (.k (.c (.int .i64 0))), none⟩]
abbrev o_rotaref12_Rank_4 : List IOper := [⟨(some 11), .mv (.t 6), none⟩,
  ⟨(some 12), .mv (.t 4), none⟩,
  ⟨(some 13), .len false (.t 12), none⟩,
  ⟨(some 14), .bin .lss (.t 11) (.t 13), none⟩]
abbrev o_rotaref12_Rank_5 : List IOper := [⟨(some 17), .mv (.t 4), none⟩,
  ⟨(some 18), .mv (.t 6), none⟩,
  ⟨(some 19), .iaS 1 (.t 17) (.t 18), none⟩,
  ⟨(some 20), .ld none (.t 19), none⟩,
  ⟨(some 21), .bin .geq (.t 20) (.k (.c (.int .i64 60))), none⟩]
abbrev o_rotaref12_Rank_6 : List IOper := [⟨(some 2), .mv (.k (.c (.int .u64 0))), none⟩,
  ⟨(some 3), .mv (.k (.c (.int .i64 120))), none⟩]
abbrev o_rotaref12_Rank_7 : List IOper := [⟨(some 23), .mv (.t 4), none⟩,
  ⟨(some 24), .mv (.t 6), none⟩,
  ⟨(some 25), .iaS 1 (.t 23) (.t 24), none⟩,
  ⟨(some 26), .ld none (.t 25), none⟩,
  ⟨(some 27), .mv (.t 6), none⟩,
  ⟨(some 28), .bin .add (.t 27) (.k (.c (.int .i64 1))), none⟩,
  ⟨(some 29), .call (.k (.c (.fn fn_rotaref12_Subsets [] []))) [(.t 26), (.t 28)], none⟩,
  ⟨(some 22), .mv (.t 29), none⟩,
  ⟨(some 30), .ext (.t 22) 0, none⟩,
  ⟨(some 31), .ext (.t 22) 1, none⟩,
  ⟨(some 7), .mv (.t 30), none⟩,
  ⟨(some 8), .mv (.t 31), none⟩]
abbrev o_rotaref12_Rank_8 : List IOper := [⟨(some 32), .mv (.t 5), none⟩,
  ⟨(some 33), .mv (.t 7), none⟩,
  ⟨(some 34), .bin .add (.t 32) (.t 33), none⟩,
  ⟨(some 5), .mv (.t 34), none⟩]
abbrev o_rotaref12_Rank_9 : List IOper := [⟨(some 15), .mv (.t 6), none⟩,
  ⟨(some 16), .bin .add (.t 15) (.k (.c (.int .i64 1))), none⟩,
  ⟨(some 6), .mv (.t 16), none⟩]
def b_rotaref12_Rank_10 : IC := (.seq (.seq (.ops o_rotaref12_Rank_4) (.cond (.t 14) .skip (.exit 0))) (.seq (.block 1 (.seq (.seq (.ops o_rotaref12_Rank_5) (.cond (.t 21) (.seq (.ops o_rotaref12_Rank_6) .ret) .skip)) (.seq (.ops o_rotaref12_Rank_7) (.ops o_rotaref12_Rank_8)))) (.ops o_rotaref12_Rank_9)))
abbrev o_rotaref12_Rank_11 : List IOper := [⟨(some 35), .mv (.t 5), none⟩,
  ⟨(some 2), .mv (.t 35), none⟩,
  ⟨(some 3), .mv (.k (.c (.int .i64 0))), none⟩]
def c_rotaref12_Rank : IC := (.seq (.ops o_rotaref12_Rank_0) (.seq (.ops o_rotaref12_Rank_1) (.seq (.ops o_rotaref12_Rank_2) (.seq (.seq (.ops o_rotaref12_Rank_3) (.block 0 (.loop b_rotaref12_Rank_10))) (.seq (.ops o_rotaref12_Rank_11) .ret)))))
def i_rotaref12_Rank : IFn := ⟨36, c_rotaref12_Rank, [(2, none), (3, none)]⟩

-- F 27 rota/bits.Unrank: bads 0, calls [35]
abbrev o_bits_Unrank_0 : List IOper := [⟨(some 4), .mv (.k (.c (.int .u64 0))), none⟩,
  ⟨(some 5), .mv (.k (.c (.int .i64 0))), none⟩]
abbrev o_bits_Unrank_1 : List IOper := [⟨(some 9), .call (.k (.c (.fn fn_bits_table [] []))) [], none⟩,
  ⟨(some 6), .new 63 (.agg (List.replicate 3782 (.int .u64 0))), none⟩,
  ⟨none, .st 3782 (.t 6) (.t 9), none⟩]
abbrev o_bits_Unrank_2 : List IOper := [⟨(some 10), .mv (.t 0), none⟩,
  ⟨(some 11), .bin .lss (.t 10) (.k (.c (.int .i64 0))), none⟩,
  ⟨(some 12), .mv (.t 11), none⟩,
  ⟨(some 13), .mv (.t 0), some (12, false)⟩,
  ⟨(some 14), .bin .gtr (.t 13) (.k (.c (.int .i64 60))), some (12, false)⟩,
  ⟨(some 15), .pick (.t 12) (.k (.c (.bool true))) (.t 14), none⟩,
  ⟨(some 16), .mv (.t 15), none⟩,
  ⟨(some 17), .mv (.t 1), some (16, false)⟩,
  ⟨(some 18), .mv (.t 0), some (16, false)⟩,
  ⟨(some 19), .iaA 61 62 (.t 6) (.k (.c (.int .i64 60))), some (16, false)⟩,
  ⟨(some 20), .iaA 62 1 (.t 19) (.t 18), some (16, false)⟩,
  ⟨(some 21), .ld none (.t 20), some (16, false)⟩,
  ⟨(some 22), .bin .geq (.t 17) (.t 21), some (16, false)⟩,
  ⟨(some 23), .pick (.t 16) (.k (.c (.bool true))) (.t 22), none⟩]
abbrev o_bits_Unrank_3 : List IOper := [⟨(some 4), .mv (.k (.c (.int .u64 0))), none⟩,
  ⟨(some 5), .mv (.k (.c (.int .i64 120))), none⟩]
abbrev o_bits_Unrank_4 : List IOper := [⟨(some 7), .mv (.k (.c (.int .u64 0))), none⟩]
abbrev o_bits_Unrank_5 : List IOper := [⟨(some 8), .mv (.k (.c (.int .i64 59))), none⟩]
abbrev o_bits_Unrank_6 : List IOper := [⟨(some 24), .mv (.t 8), none⟩,
  ⟨(some 25), .bin .geq (.t 24) (.k (.c (.int .i64 0))), none⟩]
abbrev o_bits_Unrank_7 : List IOper := [⟨(some 28), .mv (.t 0), none⟩,
  ⟨(some 29), .bin .gtr (.t 28) (.k (.c (.int .i64 0))), none⟩,
  ⟨(some 30), .mv (.t 29), none⟩,
  ⟨(some 31), .mv (.t 1), some (30, true)⟩,
  ⟨(some 32), .mv (.t 8), some (30, true)⟩,
  ⟨(some 33), .mv (.t 0), some (30, true)⟩,
  ⟨(some 34), .iaA 61 62 (.t 6) (.t 32), some (30, true)⟩,
  ⟨(some 35), .iaA 62 1 (.t 34) (.t 33), some (30, true)⟩,
  ⟨(some 36), .ld none (.t 35), some (30, true)⟩,
  ⟨(some 37), .bin .geq (.t 31) (.t 36), some (30, true)⟩,
  ⟨(some 38), .pick (.t 30) (.t 37) (.k (.c (.bool false))), none⟩]
abbrev o_bits_Unrank_8 : List IOper := [⟨(some 39), .mv (.t 1), none⟩,
  ⟨(some 40), .mv (.t 8), none⟩,
  ⟨(some 41), .mv (.t 0), none⟩,
  ⟨(some 42), .iaA 61 62 (.t 6) (.t 40), none⟩,
  ⟨(some 43), .iaA 62 1 (.t 42) (.t 41), none⟩,
  ⟨(some 44), .ld none (.t 43), none⟩,
  ⟨(some 45), .bin .sub (.t 39) (.t 44), none⟩,
  ⟨(some 1), .mv (.t 45), none⟩]
abbrev o_bits_Unrank_9 : List IOper := [⟨(some 46), .mv (.t 0), none⟩,
  ⟨(some 47), .bin .sub (.t 46) (.k (.c (.int .i64 1))), none⟩,
  ⟨(some 0), .mv (.t 47), none⟩]
abbrev o_bits_Unrank_10 : List IOper := [⟨(some 48), .mv (.t 7), none⟩,
  ⟨(some 49), .mv (.t 8), none⟩,
  ⟨(some 50), .bin .shl (.k (.c (.int .u64 1))) (.t 49), none⟩,
  ⟨(some 51), .bin .or (.t 48) (.t 50), none⟩,
  ⟨(some 7), .mv (.t 51), none⟩]
abbrev o_bits_Unrank_11 : List IOper := [⟨(some 26), .mv (.t 8), none⟩,
  ⟨(some 27), .bin .sub (.t 26) (.k (.c (.int .i64 1))), none⟩,
  ⟨(some 8), .mv (.t 27), none⟩]
def b_bits_Unrank_12 : IC := (.seq (.seq (.ops o_bits_Unrank_6) (.cond (.t 25) .skip (.exit 0))) (.seq (.block 1 (.seq (.ops o_bits_Unrank_7) (.cond (.t 38) (.seq (.ops o_bits_Unrank_8) (.seq (.ops o_bits_Unrank_9) (.ops o_bits_Unrank_10))) .skip))) (.ops o_bits_Unrank_11)))
abbrev o_bits_Unrank_13 : List IOper := [⟨(some 52), .mv (.t 7), none⟩,
  ⟨(some 4), .mv (.t 52), none⟩,
  ⟨(some 5), .mv (.k (.c (.int .i64 0))), none⟩]
def c_bits_Unrank : IC := (.seq (.ops o_bits_Unrank_0) (.seq (.ops o_bits_Unrank_1) (.seq (.seq (.ops o_bits_Unrank_2) (.cond (.t 23) (.seq (.ops o_bits_Unrank_3) .ret) .skip)) (.seq (.ops o_bits_Unrank_4) (.seq (.seq (.ops o_bits_Unrank_5) (.block 0 (.loop b_bits_Unrank_12))) (.seq (.ops o_bits_Unrank_13) .ret))))))
def i_bits_Unrank : IFn := ⟨53, c_bits_Unrank, [(4, none), (5, none)]⟩

-- F 28 rota/rotaref12.Unrank: bads 0, calls [24, 24, 36]
abbrev o_rotaref12_Unrank_0 : List IOper := [⟨(some 4), .mv (.k (.c (.int .u64 0))), none⟩,
  ⟨(some 5), .mv (.k (.c (.int .i64 0))), none⟩]
abbrev o_rotaref12_Unrank_1 : List IOper := [⟨(some 13), .mv (.t 0), none⟩,
  ⟨(some 14), .call (.k (.c (.fn fn_rotaref12_Subsets [] []))) [(.k (.c (.int .i64 60))), (.t 13)], none⟩,
  ⟨(some 12), .mv (.t 14), none⟩,
  ⟨(some 15), .ext (.t 12) 0, none⟩,
  ⟨(some 16), .ext (.t 12) 1, none⟩,
  ⟨(some 6), .mv (.t 15), none⟩,
  ⟨(some 7), .mv (.t 16), none⟩]
abbrev o_rotaref12_Unrank_2 : List IOper := [⟨(some 17), .mv (.t 1), none⟩,
  ⟨(some 18), .mv (.t 6), none⟩,
  ⟨(some 19), .bin .geq (.t 17) (.t 18), none⟩]
abbrev o_rotaref12_Unrank_3 : List IOper := [⟨(some 4), .mv (.k (.c (.int .u64 0))), none⟩,
  ⟨(some 5), .mv (.k (.c (.int .i64 120))), none⟩]
abbrev o_rotaref12_Unrank_4 : List IOper := [⟨(some 8), .new 60 (.agg (List.replicate 64 (.bool false))), none⟩]
abbrev o_rotaref12_Unrank_5 : List IOper := [⟨(some 9), .mv (.k (.c (.int .i64 59))), none⟩]
abbrev o_rotaref12_Unrank_6 : List IOper := [⟨(some 20), .mv (.t 9), none⟩,
  ⟨(some 21), .bin .geq (.t 20) (.k (.c (.int .i64 0))), none⟩]
abbrev o_rotaref12_Unrank_7 : List IOper := [⟨(some 25), .mv (.t 9), none⟩,
  ⟨(some 26), .mv (.t 0), none⟩,
  ⟨(some 27), .call (.k (.c (.fn fn_rotaref12_Subsets [] []))) [(.t 25), (.t 26)], none⟩,
  ⟨(some 24), .mv (.t 27), none⟩,
  ⟨(some 28), .ext (.t 24) 0, none⟩,
  ⟨(some 29), .ext (.t 24) 1, none⟩,
  ⟨(some 10), .mv (.t 28), none⟩,
  ⟨(some 11), .mv (.t 29), none⟩]
abbrev o_rotaref12_Unrank_8 : List IOper := [⟨(some 30), .mv (.t 0), none⟩,
  ⟨(some 31), .bin .gtr (.t 30) (.k (.c (.int .i64 0))), none⟩,
  ⟨(some 32), .mv (.t 31), none⟩,
  ⟨(some 33), .mv (.t 1), some (32, true)⟩,
  ⟨(some 34), .mv (.t 10), some (32, true)⟩,
  ⟨(some 35), .bin .geq (.t 33) (.t 34), some (32, true)⟩,
  ⟨(some 36), .pick (.t 32) (.t 35) (.k (.c (.bool false))), none⟩]
abbrev o_rotaref12_Unrank_9 : List IOper := [⟨(some 37), .mv (.t 9), none⟩,
  ⟨(some 38), .iaA 64 1 (.t 8) (.t 37), none⟩,
  ⟨none, .st 1 (.t 38) (.k (.c (.bool true))), none⟩]
abbrev o_rotaref12_Unrank_10 : List IOper := [⟨(some 39), .mv (.t 1), none⟩,
  ⟨(some 40), .mv (.t 10), none⟩,
  ⟨(some 41), .bin .sub (.t 39) (.t 40), none⟩,
  ⟨(some 1), .mv (.t 41), none⟩]
abbrev o_rotaref12_Unrank_11 : List IOper := [⟨(some 42), .mv (.t 0), none⟩,
  ⟨(some 43), .bin .sub (.t 42) (.k (.c (.int .i64 1))), none⟩,
  ⟨(some 0), .mv (.t 43), none⟩]
abbrev o_rotaref12_Unrank_12 : List IOper := [⟨(some 22), .mv (.t 9), none⟩,
  ⟨(some 23), .bin .sub (.t 22) (.k (.c (.int .i64 1))), none⟩,
  ⟨(some 9), .mv (.t 23), none⟩]
def b_rotaref12_Unrank_13 : IC := (.seq (.seq (.ops o_rotaref12_Unrank_6) (.cond (.t 21) .skip (.exit 0))) (.seq (.block 1 (.seq (.ops o_rotaref12_Unrank_7) (.seq (.ops o_rotaref12_Unrank_8) (.cond (.t 36) (.seq (.ops o_rotaref12_Unrank_9) (.seq (.ops o_rotaref12_Unrank_10) (.ops o_rotaref12_Unrank_11))) .skip)))) (.ops o_rotaref12_Unrank_12)))
abbrev o_rotaref12_Unrank_14 : List IOper := [⟨(some 44), .ld (some 64) (.t 8), none⟩,
  ⟨(some 45), .call (.k (.c (.fn fn_rotaref12_Number [] []))) [(.t 44)], none⟩,
  ⟨(some 4), .mv (.t 45), none⟩,
  ⟨(some 5), .mv (.k (.c (.int .i64 0))), none⟩]
def c_rotaref12_Unrank : IC := (.seq (.ops o_rotaref12_Unrank_0) (.seq (.ops o_rotaref12_Unrank_1) (.seq (.seq (.ops o_rotaref12_Unrank_2) (.cond (.t 19) (.seq (.ops o_rotaref12_Unrank_3) .ret) .skip)) (.seq (.ops o_rotaref12_Unrank_4) (.seq (.seq (.ops o_rotaref12_Unrank_5) (.block 0 (.loop b_rotaref12_Unrank_13))) (.seq (.ops o_rotaref12_Unrank_14) .ret))))))
def i_rotaref12_Unrank : IFn := ⟨46, c_rotaref12_Unrank, [(4, none), (5, none)]⟩

-- F 29 rota/bits.Next: bads 0, calls []
abbrev o_bits_Next_0 : List IOper := [⟨(some 4), .mv (.k (.c (.int .u64 0))), none⟩,
  ⟨(some 5), .mv (.k (.c (.bool false))), none⟩]
abbrev o_bits_Next_1 : List IOper := [⟨(some 9), .mv (.t 0), none⟩,
  ⟨(some 10), .bin .eql (.t 9) (.k (.c (.int .u64 0))), none⟩,
  ⟨(some 11), .mv (.t 10), none⟩,
  ⟨(some 12), .mv (.t 1), some (11, false)⟩,
  ⟨(some 13), .bin .lss (.t 12) (.k (.c (.int .i64 0))), some (11, false)⟩,
  ⟨(some 14), .pick (.t 11) (.k (.c (.bool true))) (.t 13), none⟩,
  ⟨(some 15), .mv (.t 14), none⟩,
  ⟨(some 16), .mv (.t 1), some (15, false)⟩,
  ⟨(some 17), .bin .gtr (.t 16) (.k (.c (.int .i64 64))), some (15, false)⟩,
  ⟨(some 18), .pick (.t 15) (.k (.c (.bool true))) (.t 17), none⟩]
abbrev o_bits_Next_2 : List IOper := [⟨(some 4), .mv (.k (.c (.int .u64 0))), none⟩,
  ⟨(some 5), .mv (.k (.c (.bool false))), none⟩]
abbrev o_bits_Next_3 : List IOper := [⟨(some 19), .mv (.t 0), none⟩,
  ⟨(some 20), .mv (.t 0), none⟩,
  ⟨(some 21), .un .neg (.t 20), none⟩,
  ⟨(some 22), .bin .and (.t 19) (.t 21), none⟩,
  ⟨(some 6), .mv (.t 22), none⟩]
abbrev o_bits_Next_4 : List IOper := [⟨(some 23), .mv (.t 0), none⟩,
  ⟨(some 24), .mv (.t 6), none⟩,
  ⟨(some 25), .bin .add (.t 23) (.t 24), none⟩,
  ⟨(some 7), .mv (.t 25), none⟩]
abbrev o_bits_Next_5 : List IOper := [⟨(some 26), .mv (.t 7), none⟩,
  ⟨(some 27), .bin .eql (.t 26) (.k (.c (.int .u64 0))), none⟩]
abbrev o_bits_Next_6 : List IOper := [⟨(some 4), .mv (.k (.c (.int .u64 0))), none⟩,
  ⟨(some 5), .mv (.k (.c (.bool false))), none⟩]
abbrev o_bits_Next_7 : List IOper := [⟨(some 28), .mv (.t 7), none⟩,
  ⟨(some 29), .mv (.t 0), none⟩,
  ⟨(some 30), .mv (.t 7), none⟩,
  ⟨(some 31), .bin .xor (.t 29) (.t 30), none⟩,
  ⟨(some 32), .mv (.t 6), none⟩,
  ⟨(some 33), .bin .quo (.t 31) (.t 32), none⟩,
  ⟨(some 34), .bin .shr (.t 33) (.k (.c (.int .u64 2))), none⟩,
  ⟨(some 35), .bin .or (.t 28) (.t 34), none⟩,
  ⟨(some 8), .mv (.t 35), none⟩]
abbrev o_bits_Next_8 : List IOper := [⟨(some 36), .mv (.t 1), none⟩,
  ⟨(some 37), .bin .lss (.t 36) (.k (.c (.int .i64 64))), none⟩,
  ⟨(some 38), .mv (.t 37), none⟩,
  ⟨(some 39), .mv (.t 8), some (38, true)⟩,
  ⟨(some 40), .mv (.t 1), some (38, true)⟩,
  ⟨(some 41), .bin .shr (.t 39) (.t 40), some (38, true)⟩,
  ⟨(some 42), .bin .neq (.t 41) (.k (.c (.int .u64 0))), some (38, true)⟩,
  ⟨(some 43), .pick (.t 38) (.t 42) (.k (.c (.bool false))), none⟩]
abbrev o_bits_Next_9 : List IOper := [⟨(some 4), .mv (.k (.c (.int .u64 0))), none⟩,
  ⟨(some 5), .mv (.k (.c (.bool false))), none⟩]
abbrev o_bits_Next_10 : List IOper := [⟨(some 44), .mv (.t 8), none⟩,
  ⟨(some 4), .mv (.t 44), none⟩,
  ⟨(some 5), .mv (.k (.c (.bool true))), none⟩]
def c_bits_Next : IC := (.seq (.ops o_bits_Next_0) (.seq (.seq (.ops o_bits_Next_1) (.cond (.t 18) (.seq (.ops o_bits_Next_2) .ret) .skip)) (.seq (.ops o_bits_Next_3) (.seq (.ops o_bits_Next_4) (.seq (.seq (.ops o_bits_Next_5) (.cond (.t 27) (.seq (.ops o_bits_Next_6) .ret) .skip)) (.seq (.ops o_bits_Next_7) (.seq (.seq (.ops o_bits_Next_8) (.cond (.t 43) (.seq (.ops o_bits_Next_9) .ret) .skip)) (.seq (.ops o_bits_Next_10) .ret))))))))
def i_bits_Next : IFn := ⟨45, c_bits_Next, [(4, none), (5, none)]⟩

-- F 30 rota/rotaref12.Next: bads 0, calls [33, 36]
abbrev o_rotaref12_Next_0 : List IOper := [⟨(some 4), .mv (.k (.c (.int .u64 0))), none⟩,
  ⟨(some 5), .mv (.k (.c (.bool false))), none⟩]
abbrev o_rotaref12_Next_1 : List IOper := [⟨(some 13), .mv (.t 1), none⟩,
  ⟨(some 14), .bin .lss (.t 13) (.k (.c (.int .i64 0))), none⟩,
  ⟨(some 15), .mv (.t 14), none⟩,
  ⟨(some 16), .mv (.t 1), some (15, false)⟩,
  ⟨(some 17), .bin .gtr (.t 16) (.k (.c (.int .i64 64))), some (15, false)⟩,
  ⟨(some 18), .pick (.t 15) (.k (.c (.bool true))) (.t 17), none⟩]
abbrev o_rotaref12_Next_2 : List IOper := [⟨(some 4), .mv (.k (.c (.int .u64 0))), none⟩,
  ⟨(some 5), .mv (.k (.c (.bool false))), none⟩]
abbrev o_rotaref12_Next_3 : List IOper := [⟨(some 19), .mv (.t 0), none⟩,
  ⟨(some 20), .call (.k (.c (.fn fn_rotaref12_Bools [] []))) [(.t 19)], none⟩,
  ⟨(some 6), .new 60 (.agg (List.replicate 64 (.bool false))), none⟩,
  ⟨none, .st 64 (.t 6) (.t 20), none⟩]
abbrev o_rotaref12_Next_4 : List IOper := [⟨(some 7), .mv (.k (.c (.int .i64 (-1)))), none⟩]
abbrev o_rotaref12_Next_5 : List IOper := [⟨(some 8), .mv (.k (.c (.int .i64 (-1)))), none⟩]
abbrev o_rotaref12_Next_6 : List IOper := [⟨(some 9), .mv (.k (.c (.int .i64 0))), none⟩]
abbrev o_rotaref12_Next_7 : List IOper := [⟨(some 21), .mv (.t 9), none⟩,
  ⟨(some 22), .bin .lss (.t 21) (.k (.c (.int .i64 64))), none⟩,
  ⟨(some 23), .mv (.t 22), none⟩,
  ⟨(some 24), .mv (.t 8), some (23, true)⟩,
  ⟨(some 25), .bin .lss (.t 24) (.k (.c (.int .i64 0))), some (23, true)⟩,
  ⟨(some 26), .pick (.t 23) (.t 25) (.k (.c (.bool false))), none⟩]
abbrev o_rotaref12_Next_8 : List IOper := [⟨(some 29), .mv (.t 9), none⟩,
  ⟨(some 30), .iaA 64 1 (.t 6) (.t 29), none⟩,
  ⟨(some 31), .ld none (.t 30), none⟩,
  ⟨(some 32), .mv (.t 31), none⟩,
  ⟨(some 33), .mv (.t 7), some (32, true)⟩,
  ⟨(some 34), .bin .lss (.t 33) (.k (.c (.int .i64 0))), some (32, true)⟩,
  ⟨(some 35), .pick (.t 32) (.t 34) (.k (.c (.bool false))), none⟩]
abbrev o_rotaref12_Next_9 : List IOper := [⟨(some 36), .mv (.t 9), none⟩,
  ⟨(some 7), .mv (.t 36), none⟩]
abbrev o_rotaref12_Next_10 : List IOper := [⟨(some 37), .mv (.t 7), none⟩,
  ⟨(some 38), .bin .geq (.t 37) (.k (.c (.int .i64 0))), none⟩,
  ⟨(some 39), .mv (.t 38), none⟩,
  ⟨(some 40), .mv (.t 9), some (39, true)⟩,
  ⟨(some 41), .bin .eql (.t 40) (.k (.c (.int .i64 63))), some (39, true)⟩,
  ⟨(some 42), .mv (.t 41), some (39, true)⟩,
  ⟨(some 43), .mv (.t 9), some (42, false)⟩,
  ⟨(some 44), .bin .add (.t 43) (.k (.c (.int .i64 1))), some (42, false)⟩,
  ⟨(some 45), .iaA 64 1 (.t 6) (.t 44), some (42, false)⟩,
  ⟨(some 46), .ld none (.t 45), some (42, false)⟩,
  ⟨(some 47), .un .not (.t 46), some (42, false)⟩,
  ⟨(some 48), .pick (.t 42) (.k (.c (.bool true))) (.t 47), some (39, true)⟩,
  ⟨(some 49), .pick (.t 39) (.t 48) (.k (.c (.bool false))), none⟩]
abbrev o_rotaref12_Next_11 : List IOper := [⟨(some 50), .mv (.t 9), none⟩,
  ⟨(some 8), .mv (.t 50), none⟩]
abbrev o_rotaref12_Next_12 : List IOper := [⟨(some 27), .mv (.t 9), none⟩,
  ⟨(some 28), .bin .add (.t 27) (.k (.c (.int .i64 1))), none⟩,
  ⟨(some 9), .mv (.t 28), none⟩]
def b_rotaref12_Next_13 : IC := (.seq (.seq (.ops o_rotaref12_Next_7) (.cond (.t 26) .skip (.exit 0))) (.seq (.block 1 (.seq (.seq (.ops o_rotaref12_Next_8) (.cond (.t 35) (.ops o_rotaref12_Next_9) .skip)) (.seq (.ops o_rotaref12_Next_10) (.cond (.t 49) (.ops o_rotaref12_Next_11) .skip)))) (.ops o_rotaref12_Next_12)))
abbrev o_rotaref12_Next_14 : List IOper := [⟨(some 51), .mv (.t 7), none⟩,
  ⟨(some 52), .bin .lss (.t 51) (.k (.c (.int .i64 0))), none⟩,
  ⟨(some 53), .mv (.t 52), none⟩,
  ⟨(some 54), .mv (.t 8), some (53, false)⟩,
  ⟨(some 55), .bin .eql (.t 54) (.k (.c (.int .i64 63))), some (53, false)⟩,
  ⟨(some 56), .pick (.t 53) (.k (.c (.bool true))) (.t 55), none⟩]
abbrev o_rotaref12_Next_15 : List IOper := [⟨(some 4), .mv (.k (.c (.int .u64 0))), none⟩,
  ⟨(some 5), .mv (.k (.c (.bool false))), none⟩]
abbrev o_rotaref12_Next_16 : List IOper := [⟨(some 57), .mv (.t 7), none⟩,
  ⟨(some 10), .mv (.t 57), none⟩]
abbrev o_rotaref12_Next_17 : List IOper := [⟨(some 58), .mv (.t 10), none⟩,
  ⟨(some 59), .mv (.t 8), none⟩,
  ⟨(some 60), .bin .leq (.t 58) (.t 59), none⟩]
abbrev o_rotaref12_Next_18 : List IOper := [⟨(some 63), .mv (.t 10), none⟩,
  ⟨(some 64), .iaA 64 1 (.t 6) (.t 63), none⟩,
  ⟨none, .st 1 (.t 64) (.k (.c (.bool false))), none⟩]
abbrev o_rotaref12_Next_19 : List IOper := [⟨(some 61), .mv (.t 10), none⟩,
  ⟨(some 62), .bin .add (.t 61) (.k (.c (.int .i64 1))), none⟩,
  ⟨(some 10), .mv (.t 62), none⟩]
def b_rotaref12_Next_20 : IC := (.seq (.seq (.ops o_rotaref12_Next_17) (.cond (.t 60) .skip (.exit 2))) (.seq (.block 3 (.ops o_rotaref12_Next_18)) (.ops o_rotaref12_Next_19)))
abbrev o_rotaref12_Next_21 : List IOper := [⟨(some 65), .mv (.t 8), none⟩,
  ⟨(some 66), .bin .add (.t 65) (.k (.c (.int .i64 1))), none⟩,
  ⟨(some 67), .iaA 64 1 (.t 6) (.t 66), none⟩,
  ⟨none, .st 1 (.t 67) (.k (.c (.bool true))), none⟩]
abbrev o_rotaref12_Next_22 : List IOper := [⟨(some 11), .mv (.k (.c (.int .i64 0))), none⟩]
abbrev o_rotaref12_Next_23 : List IOper := [⟨(some 68), .mv (.t 11), none⟩,
  ⟨(some 69), .mv (.t 8), none⟩,
  ⟨(some 70), .mv (.t 7), none⟩,
  ⟨(some 71), .bin .sub (.t 69) (.t 70), none⟩,
  ⟨(some 72), .bin .lss (.t 68) (.t 71), none⟩]
abbrev o_rotaref12_Next_24 : List IOper := [⟨(some 75), .mv (.t 11), none⟩,
  ⟨(some 76), .iaA 64 1 (.t 6) (.t 75), none⟩,
  ⟨none, .st 1 (.t 76) (.k (.c (.bool true))), none⟩]
abbrev o_rotaref12_Next_25 : List IOper := [⟨(some 73), .mv (.t 11), none⟩,
  ⟨(some 74), .bin .add (.t 73) (.k (.c (.int .i64 1))), none⟩,
  ⟨(some 11), .mv (.t 74), none⟩]
def b_rotaref12_Next_26 : IC := (.seq (.seq (.ops o_rotaref12_Next_23) (.cond (.t 72) .skip (.exit 4))) (.seq (.block 5 (.ops o_rotaref12_Next_24)) (.ops o_rotaref12_Next_25)))
abbrev o_rotaref12_Next_27 : List IOper := [⟨(some 77), .mv (.t 1), none⟩,
  ⟨(some 12), .mv (.t 77), none⟩]
abbrev o_rotaref12_Next_28 : List IOper := [⟨(some 78), .mv (.t 12), none⟩,
  ⟨(some 79), .bin .lss (.t 78) (.k (.c (.int .i64 64))), none⟩]
abbrev o_rotaref12_Next_29 : List IOper := [⟨(some 82), .mv (.t 12), none⟩,
  ⟨(some 83), .iaA 64 1 (.t 6) (.t 82), none⟩,
  ⟨(some 84), .ld none (.t 83), none⟩]
abbrev o_rotaref12_Next_30 : List IOper := [⟨(some 4), .mv (.k (.c (.int .u64 0))), none⟩,
  ⟨(some 5), .mv (.k (.c (.bool false))), none⟩]
abbrev o_rotaref12_Next_31 : List IOper := [⟨(some 80), .mv (.t 12), none⟩,
  ⟨(some 81), .bin .add (.t 80) (.k (.c (.int .i64 1))), none⟩,
  ⟨(some 12), .mv (.t 81), none⟩]
def b_rotaref12_Next_32 : IC := (.seq (.seq (.ops o_rotaref12_Next_28) (.cond (.t 79) .skip (.exit 6))) (.seq (.block 7 (.seq (.ops o_rotaref12_Next_29) (.cond (.t 84) (.seq (.ops o_rotaref12_Next_30) .ret) .skip))) (.ops o_rotaref12_Next_31)))
abbrev o_rotaref12_Next_33 : List IOper := [⟨(some 85), .ld (some 64) (.t 6), none⟩,
  ⟨(some 86), .call (.k (.c (.fn fn_rotaref12_Number [] []))) [(.t 85)], none⟩,
  ⟨(some 4), .mv (.t 86), none⟩,
  ⟨(some 5), .mv (.k (.c (.bool true))), none⟩]
def c_rotaref12_Next : IC := (.seq (.ops o_rotaref12_Next_0) (.seq (.seq (.ops o_rotaref12_Next_1) (.cond (.t 18) (.seq (.ops o_rotaref12_Next_2) .ret) .skip)) (.seq (.ops o_rotaref12_Next_3) (.seq (.ops o_rotaref12_Next_4) (.seq (.ops o_rotaref12_Next_5) (.seq (.seq (.ops o_rotaref12_Next_6) (.block 0 (.loop b_rotaref12_Next_13))) (.seq (.seq (.ops o_rotaref12_Next_14) (.cond (.t 56) (.seq (.ops o_rotaref12_Next_15) .ret) .skip)) (.seq (.seq (.ops o_rotaref12_Next_16) (.block 2 (.loop b_rotaref12_Next_20))) (.seq (.ops o_rotaref12_Next_21) (.seq (.seq (.ops o_rotaref12_Next_22) (.block 4 (.loop b_rotaref12_Next_26))) (.seq (.seq (.ops o_rotaref12_Next_27) (.block 6 (.loop b_rotaref12_Next_32))) (.seq (.ops o_rotaref12_Next_33) .ret))))))))))))
def i_rotaref12_Next : IFn := ⟨87, c_rotaref12_Next, [(4, none), (5, none)]⟩

-- F 31 rota/bits.Of: bads 0, calls []
abbrev o_bits_Of_0 : List IOper := [⟨(some 2), .mv (.k (.c (.int .u64 0))), none⟩,
  ⟨(some 3), .mv (.k (.c (.int .i64 0))), none⟩]
abbrev o_bits_Of_1 : List IOper := [⟨(some 6), .mv (.t 0), none⟩,
  ⟨(some 7), .len false (.t 6), none⟩,
  ⟨(some 8), .mv (.k (.c (.int .i64 0))), none⟩]
abbrev o_bits_Of_2 : List IOper := [⟨(some 9), .bin .lss (.t 8) (.t 7), none⟩]
abbrev o_bits_Of_3 : List IOper := [⟨(some 10), .iaS 1 (.t 6) (.t 8), none⟩,
  ⟨(some 11), .ld none (.t 10), none⟩,
  ⟨(some 5), .mv (.t 11), none⟩]
abbrev o_bits_Of_4 : List IOper := [⟨(some 12), .mv (.t 5), none⟩,
  ⟨(some 13), .bin .lss (.t 12) (.k (.c (.int .i64 0))), none⟩,
  ⟨(some 14), .mv (.t 13), none⟩,
  ⟨(some 15), .mv (.t 5), some (14, false)⟩,
  ⟨(some 16), .bin .geq (.t 15) (.k (.c (.int .i64 64))), some (14, false)⟩,
  ⟨(some 17), .pick (.t 14) (.k (.c (.bool true))) (.t 16), none⟩]
abbrev o_bits_Of_5 : List IOper := [⟨(some 2), .mv (.k (.c (.int .u64 0))), none⟩,
  ⟨(some 3), .mv (.k (.c (.int .i64 120))), none⟩]
abbrev o_bits_Of_6 : List IOper := [⟨(some 18), .mv (.t 2), none⟩,
  ⟨(some 19), .mv (.t 5), none⟩,
  ⟨(some 20), .bin .shl (.k (.c (.int .u64 1))) (.t 19), none⟩,
  ⟨(some 21), .bin .or (.t 18) (.t 20), none⟩,
  ⟨(some 2), .mv (.t 21), none⟩]
abbrev o_bits_Of_7 : List IOper := [⟨(some 22), .bin .add (.t 8) (.k (.c (.int .i64 1))), none⟩,
  ⟨(some 8), .mv (.t 22), none⟩]
def b_bits_Of_8 : IC := (.seq (.ops o_bits_Of_2) (.seq (.cond (.t 9) .skip (.exit 0)) (.seq (.block 1 (.seq (.ops o_bits_Of_3) (.seq (.seq (.ops o_bits_Of_4) (.cond (.t 17) (.seq (.ops o_bits_Of_5) .ret) .skip)) (.ops o_bits_Of_6)))) (.ops o_bits_Of_7))))
abbrev o_bits_Of_9 : List IOper := [⟨(some 23), .mv (.t 2), none⟩,
  ⟨(some 2), .mv (.t 23), none⟩,
  ⟨(some 3), .mv (.k (.c (.int .i64 0))), none⟩]
def c_bits_Of : IC := (.seq (.ops o_bits_Of_0) (.seq (.seq (.ops o_bits_Of_1) (.block 0 (.loop b_bits_Of_8))) (.seq (.ops o_bits_Of_9) .ret)))
def i_bits_Of : IFn := ⟨24, c_bits_Of, [(2, none), (3, none)]⟩

-- F 32 rota/bits.all: bads 0, calls [37]
abbrev o_bits_all_0 : List IOper := [⟨(some 1), .box 22 (.t 0), none⟩,
  ⟨(some 2), .mv (.k (.c .nilFn)), none⟩]
abbrev o_bits_all_1 : List IOper := [⟨(some 3), .mkfn fn_bits_all_1 [] [(.t 1)], none⟩,
  ⟨(some 2), .mv (.t 3), none⟩]
def c_bits_all : IC := (.seq (.ops o_bits_all_0) (.seq (.ops o_bits_all_1) .ret))
def i_bits_all : IFn := ⟨4, c_bits_all, [(2, none)]⟩

-- F 33 rota/rotaref12.Bools: bads 0, calls []
abbrev o_rotaref12_Bools_0 : List IOper := [⟨(some 2), .new 60 (.agg (List.replicate 64 (.bool false))), none⟩]
abbrev o_rotaref12_Bools_1 : List IOper := [⟨(some 3), .new 60 (.agg (List.replicate 64 (.bool false))), none⟩]
abbrev o_rotaref12_Bools_2 : List IOper := [⟨(some 4), .mv (.k (.c (.int .i64 0))), none⟩]
abbrev o_rotaref12_Bools_3 : List IOper := [⟨(some 5), .mv (.t 4), none⟩,
  ⟨(some 6), .bin .lss (.t 5) (.k (.c (.int .i64 64))), none⟩]
abbrev o_rotaref12_Bools_4 : List IOper := [⟨(some 9), .mv (.t 4), none⟩,
  ⟨(some 10), .mv (.t 0), none⟩,
  ⟨(some 11), .bin .rem (.t 10) (.k (.c (.int .u64 2))), none⟩,
  ⟨(some 12), .bin .eql (.t 11) (.k (.c (.int .u64 1))), none⟩,
  ⟨(some 13), .iaA 64 1 (.t 3) (.t 9), none⟩,
  ⟨none, .st 1 (.t 13) (.t 12), none⟩]
abbrev o_rotaref12_Bools_5 : List IOper := [⟨(some 14), .mv (.t 0), none⟩,
  ⟨(some 15), .bin .quo (.t 14) (.k (.c (.int .u64 2))), none⟩,
  ⟨(some 0), .mv (.t 15), none⟩]
abbrev o_rotaref12_Bools_6 : List IOper := [⟨(some 7), .mv (.t 4), none⟩,
  ⟨(some 8), .bin .add (.t 7) (.k (.c (.int .i64 1))), none⟩,
  ⟨(some 4), .mv (.t 8), none⟩]
def b_rotaref12_Bools_7 : IC := (.seq (.seq (.ops o_rotaref12_Bools_3) (.cond (.t 6) .skip (.exit 0))) (.seq (.block 1 (.seq (.ops o_rotaref12_Bools_4) (.ops o_rotaref12_Bools_5))) (.ops o_rotaref12_Bools_6)))
abbrev o_rotaref12_Bools_8 : List IOper := [⟨(some 16), .ld (some 64) (.t 3), none⟩,
  ⟨none, .st 64 (.t 2) (.t 16), none⟩]
def c_rotaref12_Bools : IC := (.seq (.ops o_rotaref12_Bools_0) (.seq (.ops o_rotaref12_Bools_1) (.seq (.seq (.ops o_rotaref12_Bools_2) (.block 0 (.loop b_rotaref12_Bools_7))) (.seq (.ops o_rotaref12_Bools_8) .ret))))
def i_rotaref12_Bools : IFn := ⟨17, c_rotaref12_Bools, [(2, (some (some 64)))]⟩

-- F 34 math/bits.OnesCount64: bads 0, calls []
abbrev o_bits_OnesCount64_0 : List IOper := [⟨(some 2), .mv (.k (.c (.int .i64 0))), none⟩]
abbrev o_bits_OnesCount64_1 : List IOper := [⟨(some 3), .mv (.t 0), none⟩,
  ⟨(some 4), .bin .shr (.t 3) (.k (.c (.int .u64 1))), none⟩,
  ⟨(some 5), .bin .and (.t 4) (.k (.c (.int .u64 6148914691236517205))), none⟩,
  ⟨(some 6), .mv (.t 0), none⟩,
  ⟨(some 7), .bin .and (.t 6) (.k (.c (.int .u64 6148914691236517205))), none⟩,
  ⟨(some 8), .bin .add (.t 5) (.t 7), none⟩,
  ⟨(some 0), .mv (.t 8), none⟩]
abbrev o_bits_OnesCount64_2 : List IOper := [⟨(some 9), .mv (.t 0), none⟩,
  ⟨(some 10), .bin .shr (.t 9) (.k (.c (.int .u64 2))), none⟩,
  ⟨(some 11), .bin .and (.t 10) (.k (.c (.int .u64 3689348814741910323))), none⟩,
  ⟨(some 12), .mv (.t 0), none⟩,
  ⟨(some 13), .bin .and (.t 12) (.k (.c (.int .u64 3689348814741910323))), none⟩,
  ⟨(some 14), .bin .add (.t 11) (.t 13), none⟩,
  ⟨(some 0), .mv (.t 14), none⟩]
abbrev o_bits_OnesCount64_3 : List IOper := [⟨(some 15), .mv (.t 0), none⟩,
  ⟨(some 16), .bin .shr (.t 15) (.k (.c (.int .u64 4))), none⟩,
  ⟨(some 17), .mv (.t 0), none⟩,
  ⟨(some 18), .bin .add (.t 16) (.t 17), none⟩,
  ⟨(some 19), .bin .and (.t 18) (.k (.c (.int .u64 1085102592571150095))), none⟩,
  ⟨(some 0), .mv (.t 19), none⟩]
abbrev o_bits_OnesCount64_4 : List IOper := [⟨(some 20), .mv (.t 0), none⟩,
  ⟨(some 21), .mv (.t 0), none⟩,
  ⟨(some 22), .bin .shr (.t 21) (.k (.c (.int .u64 8))), none⟩,
  ⟨(some 23), .bin .add (.t 20) (.t 22), none⟩,
  ⟨(some 0), .mv (.t 23), none⟩]
abbrev o_bits_OnesCount64_5 : List IOper := [⟨(some 24), .mv (.t 0), none⟩,
  ⟨(some 25), .mv (.t 0), none⟩,
  ⟨(some 26), .bin .shr (.t 25) (.k (.c (.int .u64 16))), none⟩,
  ⟨(some 27), .bin .add (.t 24) (.t 26), none⟩,
  ⟨(some 0), .mv (.t 27), none⟩]
abbrev o_bits_OnesCount64_6 : List IOper := [⟨(some 28), .mv (.t 0), none⟩,
  ⟨(some 29), .mv (.t 0), none⟩,
  ⟨(some 30), .bin .shr (.t 29) (.k (.c (.int .u64 32))), none⟩,
  ⟨(some 31), .bin .add (.t 28) (.t 30), none⟩,
  ⟨(some 0), .mv (.t 31), none⟩]
abbrev o_bits_OnesCount64_7 : List IOper := [⟨(some 32), .mv (.t 0), none⟩,
  ⟨(some 33), .cv .i64 (.t 32), none⟩,
  ⟨(some 34), .bin .and (.t 33) (.k (.c (.int .i64 127))), none⟩,
  ⟨(some 2), .mv (.t 34), none⟩]
def c_bits_OnesCount64 : IC := (.seq (.ops o_bits_OnesCount64_0) (.seq (.ops o_bits_OnesCount64_1) (.seq (.ops o_bits_OnesCount64_2) (.seq (.ops o_bits_OnesCount64_3) (.seq (.ops o_bits_OnesCount64_4) (.seq (.ops o_bits_OnesCount64_5) (.seq (.ops o_bits_OnesCount64_6) (.seq (.ops o_bits_OnesCount64_7) .ret))))))))
def i_bits_OnesCount64 : IFn := ⟨35, c_bits_OnesCount64, [(2, none)]⟩

-- F 35 rota/bits.table: bads 0, calls []
abbrev o_bits_table_0 : List IOper := [⟨(some 0), .new 63 (.agg (List.replicate 3782 (.int .u64 0))), none⟩]
abbrev o_bits_table_1 : List IOper := [⟨(some 3), .mv (.k (.c (.int .i64 0))), none⟩]
abbrev o_bits_table_2 : List IOper := [⟨(some 4), .bin .lss (.t 3) (.k (.c (.int .i64 61))), none⟩]
abbrev o_bits_table_3 : List IOper := [⟨(some 5), .mv (.t 3), none⟩,
  ⟨(some 1), .mv (.t 5), none⟩]
abbrev o_bits_table_4 : List IOper := [⟨(some 6), .mv (.t 1), none⟩,
  ⟨(some 7), .iaA 61 62 (.t 0) (.t 6), none⟩,
  ⟨(some 8), .iaA 62 1 (.t 7) (.k (.c (.int .i64 0))), none⟩,
  ⟨none, .st 1 (.t 8) (.k (.c (.int .u64 1))), none⟩]
abbrev o_bits_table_5 : List IOper := [⟨(some 2), .mv (.k (.c (.int .i64 1))), none⟩]
abbrev o_bits_table_6 : List IOper := [⟨(some 9), .mv (.t 2), none⟩,
  ⟨(some 10), .mv (.t 1), none⟩,
  ⟨(some 11), .bin .leq (.t 9) (.t 10), none⟩]
abbrev o_bits_table_7 : List IOper := [⟨(some 14), .mv (.t 1), none⟩,
  ⟨(some 15), .mv (.t 2), none⟩,
  ⟨(some 16), .mv (.t 1), none⟩,
  ⟨(some 17), .bin .sub (.t 16) (.k (.c (.int .i64 1))), none⟩,
  ⟨(some 18), .mv (.t 2), none⟩,
  ⟨(some 19), .bin .sub (.t 18) (.k (.c (.int .i64 1))), none⟩,
  ⟨(some 20), .iaA 61 62 (.t 0) (.t 17), none⟩,
  ⟨(some 21), .iaA 62 1 (.t 20) (.t 19), none⟩,
  ⟨(some 22), .ld none (.t 21), none⟩,
  ⟨(some 23), .mv (.t 1), none⟩,
  ⟨(some 24), .bin .sub (.t 23) (.k (.c (.int .i64 1))), none⟩,
  ⟨(some 25), .mv (.t 2), none⟩,
  ⟨(some 26), .iaA 61 62 (.t 0) (.t 24), none⟩,
  ⟨(some 27), .iaA 62 1 (.t 26) (.t 25), none⟩,
  ⟨(some 28), .ld none (.t 27), none⟩,
  ⟨(some 29), .bin .add (.t 22) (.t 28), none⟩,
  ⟨(some 30), .iaA 61 62 (.t 0) (.t 14), none⟩,
  ⟨(some 31), .iaA 62 1 (.t 30) (.t 15), none⟩,
  ⟨none, .st 1 (.t 31) (.t 29), none⟩]
abbrev o_bits_table_8 : List IOper := [⟨(some 12), .mv (.t 2), none⟩,
  ⟨(some 13), .bin .add (.t 12) (.k (.c (.int .i64 1))), none⟩,
  ⟨(some 2), .mv (.t 13), none⟩]
def b_bits_table_9 : IC := (.seq (.seq (.ops o_bits_table_6) (.cond (.t 11) .skip (.exit 2))) (.seq (.block 3 (.ops o_bits_table_7)) (.ops o_bits_table_8)))
abbrev o_bits_table_10 : List IOper := [⟨(some 32), .bin .add (.t 3) (.k (.c (.int .i64 1))), none⟩,
  ⟨(some 3), .mv (.t 32), none⟩]
def b_bits_table_11 : IC := (.seq (.ops o_bits_table_2) (.seq (.cond (.t 4) .skip (.exit 0)) (.seq (.block 1 (.seq (.ops o_bits_table_3) (.seq (.ops o_bits_table_4) (.seq (.ops o_bits_table_5) (.block 2 (.loop b_bits_table_9)))))) (.ops o_bits_table_10))))
abbrev o_bits_table_12 : List IOper := [⟨(some 33), .ld (some 3782) (.t 0), none⟩,
  ⟨none, .st 3782 (.t 0) (.t 33), none⟩]
def c_bits_table : IC := (.seq (.ops o_bits_table_0) (.seq (.seq (.ops o_bits_table_1) (.block 0 (.loop b_bits_table_11))) (.seq (.ops o_bits_table_12) .ret)))
def i_bits_table : IFn := ⟨34, c_bits_table, [(0, (some (some 3782)))]⟩

-- F 36 rota/rotaref12.Number: bads 0, calls []
abbrev o_rotaref12_Number_0 : List IOper := [⟨(some 1), .box 60 (.t 0), none⟩,
  ⟨(some 2), .mv (.k (.c (.int .u64 0))), none⟩]
abbrev o_rotaref12_Number_1 : List IOper := [⟨(some 3), .mv (.k (.c (.int .u64 0))), none⟩]
abbrev o_rotaref12_Number_2 : List IOper := [⟨(some 4), .mv (.k (.c (.int .i64 63))), none⟩]
abbrev o_rotaref12_Number_3 : List IOper := [⟨(some 5), .mv (.t 4), none⟩,
  ⟨(some 6), .bin .geq (.t 5) (.k (.c (.int .i64 0))), none⟩]
abbrev o_rotaref12_Number_4 : List IOper := [⟨(some 9), .mv (.t 3), none⟩,
  ⟨(some 10), .bin .mul (.k (.c (.int .u64 2))) (.t 9), none⟩,
  ⟨(some 3), .mv (.t 10), none⟩]
abbrev o_rotaref12_Number_5 : List IOper := [⟨(some 11), .mv (.t 4), none⟩,
  ⟨(some 12), .iaA 64 1 (.t 1) (.t 11), none⟩,
  ⟨(some 13), .ld none (.t 12), none⟩]
abbrev o_rotaref12_Number_6 : List IOper := [⟨(some 14), .mv (.t 3), none⟩,
  ⟨(some 15), .bin .add (.t 14) (.k (.c (.int .u64 1))), none⟩,
  ⟨(some 3), .mv (.t 15), none⟩]
abbrev o_rotaref12_Number_7 : List IOper := [⟨(some 7), .mv (.t 4), none⟩,
  ⟨(some 8), .bin .sub (.t 7) (.k (.c (.int .i64 1))), none⟩,
  ⟨(some 4), .mv (.t 8), none⟩]
def b_rotaref12_Number_8 : IC := (.seq (.seq (.ops o_rotaref12_Number_3) (.cond (.t 6) .skip (.exit 0))) (.seq (.block 1 (.seq (.ops o_rotaref12_Number_4) (.seq (.ops o_rotaref12_Number_5) (.cond (.t 13) (.ops o_rotaref12_Number_6) .skip)))) (.ops o_rotaref12_Number_7)))
abbrev o_rotaref12_Number_9 : List IOper := [⟨(some 16), .mv (.t 3), none⟩,
  ⟨(some 2), .mv (.t 16), none⟩]
def c_rotaref12_Number : IC := (.seq (.ops o_rotaref12_Number_0) (.seq (.ops o_rotaref12_Number_1) (.seq (.seq (.ops o_rotaref12_Number_2) (.block 0 (.loop b_rotaref12_Number_8))) (.seq (.ops o_rotaref12_Number_9) .ret))))
def i_rotaref12_Number : IFn := ⟨17, c_rotaref12_Number, [(2, none)]⟩

-- F 37 rota/bits.all$1: bads 0, calls [38]
abbrev o_bits_all_1_0 : List IOper := [⟨(some 3), .ld none (.t 1), none⟩,
  ⟨(some 4), .bin .neq (.t 3) (.k (.c (.int .u64 0))), none⟩]
abbrev o_bits_all_1_1 : List IOper := [⟨(some 9), .mv (.t 0), none⟩,
  ⟨(some 10), .ld none (.t 1), none⟩,
  ⟨(some 11), .call (.k (.c (.fn fn_bits_TrailingZeros64 [] []))) [(.t 10)], none⟩,
  ⟨(some 12), .call (.t 9) [(.t 11)], none⟩,
  ⟨(some 13), .un .not (.t 12), none⟩]
abbrev o_bits_all_1_2 : List IOper := [⟨(some 5), .ld none (.t 1), none⟩,
  ⟨(some 6), .ld none (.t 1), none⟩,
  ⟨(some 7), .bin .sub (.t 6) (.k (.c (.int .u64 1))), none⟩,
  ⟨(some 8), .bin .and (.t 5) (.t 7), none⟩,
  ⟨none, .st 1 (.t 1) (.t 8), none⟩]
def b_bits_all_1_3 : IC := (.seq (.seq (.ops o_bits_all_1_0) (.cond (.t 4) .skip (.exit 0))) (.seq (.block 1 (.seq (.ops o_bits_all_1_1) (.cond (.t 13) .ret .skip))) (.ops o_bits_all_1_2)))
def c_bits_all_1 : IC := (.block 0 (.loop b_bits_all_1_3))
def i_bits_all_1 : IFn := ⟨14, c_bits_all_1, []⟩

-- F 38 math/bits.TrailingZeros64: bads 0, calls []
abbrev o_bits_TrailingZeros64_0 : List IOper := [⟨(some 2), .mv (.k (.c (.int .i64 0))), none⟩]
abbrev o_bits_TrailingZeros64_1 : List IOper := [⟨(some 3), .mv (.t 0), none⟩,
  ⟨(some 4), .bin .eql (.t 3) (.k (.c (.int .u64 0))), none⟩]
abbrev o_bits_TrailingZeros64_2 : List IOper := [⟨(some 2), .mv (.k (.c (.int .i64 64))), none⟩]
abbrev o_bits_TrailingZeros64_3 : List IOper := [⟨(some 5), .mv (.t 0), none⟩,
  ⟨(some 6), .mv (.t 0), none⟩,
  ⟨(some 7), .un .neg (.t 6), none⟩,
  ⟨(some 8), .bin .and (.t 5) (.t 7), none⟩,
  ⟨(some 9), .bin .mul (.t 8) (.k (.c (.int .u64 285870213051353865))), none⟩,
  ⟨(some 10), .bin .shr (.t 9) (.k (.c (.int .u64 58))), none⟩,
  ⟨(some 11), .iaA 64 1 (.k (.c (.ptr (some (0, 0))))) (.t 10), none⟩,
  ⟨(some 12), .ld none (.t 11), none⟩,
  ⟨(some 13), .cv .i64 (.t 12), none⟩,
  ⟨(some 2), .mv (.t 13), none⟩]
def c_bits_TrailingZeros64 : IC := (.seq (.ops o_bits_TrailingZeros64_0) (.seq (.seq (.ops o_bits_TrailingZeros64_1) (.cond (.t 4) (.seq (.ops o_bits_TrailingZeros64_2) .ret) .skip)) (.seq (.ops o_bits_TrailingZeros64_3) .ret)))
def i_bits_TrailingZeros64 : IFn := ⟨14, c_bits_TrailingZeros64, [(2, none)]⟩

def fs : List (Nat × IFn) := [(fn_rotalaw12_BitsHalves, i_rotalaw12_BitsHalves), (fn_rotalaw12_BitsTell, i_rotalaw12_BitsTell), (fn_rotalaw12_BitsRanks, i_rotalaw12_BitsRanks), (fn_rotalaw12_BitsRuns, i_rotalaw12_BitsRuns), (fn_rotalaw12_BitsAll, i_rotalaw12_BitsAll), (fn_rotalaw12_BitsOrder, i_rotalaw12_BitsOrder), (fn_rotalaw12_BitsNames, i_rotalaw12_BitsNames), (fn_rotalaw12_alive, i_rotalaw12_alive), (fn_bits_Majority, i_bits_Majority), (fn_bits_From, i_bits_From), (fn_rotaref12_From, i_rotaref12_From), (fn_rotaref12_Members, i_rotaref12_Members), (fn_bits_Members, i_bits_Members), (fn_bits_Runs, i_bits_Runs), (fn_rotaref12_Ints, i_rotaref12_Ints), (fn_bits_Size, i_bits_Size), (fn_bits_Has, i_bits_Has), (fn_rotaref12_Majority, i_rotaref12_Majority), (fn_rotaref12_Spans, i_rotaref12_Spans), (fn_rotaref12_Runs, i_rotaref12_Runs), (fn_bits_Subsets, i_bits_Subsets), (fn_rotaref12_Subsets, i_rotaref12_Subsets), (fn_bits_Rank, i_bits_Rank), (fn_rotaref12_Rank, i_rotaref12_Rank), (fn_bits_Unrank, i_bits_Unrank), (fn_rotaref12_Unrank, i_rotaref12_Unrank), (fn_bits_Next, i_bits_Next), (fn_rotaref12_Next, i_rotaref12_Next), (fn_bits_Of, i_bits_Of), (fn_bits_all, i_bits_all), (fn_rotaref12_Bools, i_rotaref12_Bools), (fn_bits_OnesCount64, i_bits_OnesCount64), (fn_bits_table, i_bits_table), (fn_rotaref12_Number, i_rotaref12_Number), (fn_bits_all_1, i_bits_all_1), (fn_bits_TrailingZeros64, i_bits_TrailingZeros64)]
def F : FuncId → Option Fun := funs fs
theorem e_rotalaw12_BitsHalves : F fn_rotalaw12_BitsHalves = some (.code ⟨54, c_rotalaw12_BitsHalves, [(6, none)]⟩) := by rfl
theorem e_rotalaw12_BitsTell : F fn_rotalaw12_BitsTell = some (.code ⟨91, c_rotalaw12_BitsTell, [(6, none)]⟩) := by rfl
theorem e_rotalaw12_BitsRanks : F fn_rotalaw12_BitsRanks = some (.code ⟨107, c_rotalaw12_BitsRanks, [(6, none)]⟩) := by rfl
theorem e_rotalaw12_BitsRuns : F fn_rotalaw12_BitsRuns = some (.code ⟨92, c_rotalaw12_BitsRuns, [(2, none)]⟩) := by rfl
theorem e_rotalaw12_BitsAll : F fn_rotalaw12_BitsAll = some (.code ⟨112, c_rotalaw12_BitsAll, [(4, none)]⟩) := by rfl
theorem e_rotalaw12_BitsOrder : F fn_rotalaw12_BitsOrder = some (.code ⟨119, c_rotalaw12_BitsOrder, [(4, none)]⟩) := by rfl
theorem e_rotalaw12_BitsNames : F fn_rotalaw12_BitsNames = some (.code ⟨273, c_rotalaw12_BitsNames, [(0, none)]⟩) := by rfl
theorem e_rotalaw12_alive : F fn_rotalaw12_alive = some (.code ⟨50, c_rotalaw12_alive, [(0, none)]⟩) := by rfl
theorem e_bits_Majority : F fn_bits_Majority = some (.code ⟨13, c_bits_Majority, [(4, none)]⟩) := by rfl
theorem e_bits_From : F fn_bits_From = some (.code ⟨14, c_bits_From, [(4, (some none)), (5, (some none))]⟩) := by rfl
theorem e_rotaref12_From : F fn_rotaref12_From = some (.code ⟨26, c_rotaref12_From, [(4, none), (5, none)]⟩) := by rfl
theorem e_rotaref12_Members : F fn_rotaref12_Members = some (.code ⟨20, c_rotaref12_Members, [(2, none)]⟩) := by rfl
theorem e_bits_Members : F fn_bits_Members = some (.code ⟨13, c_bits_Members, [(2, none)]⟩) := by rfl
theorem e_bits_Runs : F fn_bits_Runs = some (.code ⟨40, c_bits_Runs, [(2, none)]⟩) := by rfl
theorem e_rotaref12_Ints : F fn_rotaref12_Ints = some (.code ⟨26, c_rotaref12_Ints, [(4, none)]⟩) := by rfl
theorem e_bits_Size : F fn_bits_Size = some (.code ⟨5, c_bits_Size, [(2, none)]⟩) := by rfl
theorem e_bits_Has : F fn_bits_Has = some (.code ⟨18, c_bits_Has, [(4, none)]⟩) := by rfl
theorem e_rotaref12_Majority : F fn_rotaref12_Majority = some (.code ⟨42, c_rotaref12_Majority, [(4, none)]⟩) := by rfl
theorem e_rotaref12_Spans : F fn_rotaref12_Spans = some (.code ⟨26, c_rotaref12_Spans, [(4, none)]⟩) := by rfl
theorem e_rotaref12_Runs : F fn_rotaref12_Runs = some (.code ⟨54, c_rotaref12_Runs, [(2, none)]⟩) := by rfl
theorem e_bits_Subsets : F fn_bits_Subsets = some (.code ⟨24, c_bits_Subsets, [(4, none), (5, none)]⟩) := by rfl
theorem e_rotaref12_Subsets : F fn_rotaref12_Subsets = some (.code ⟨37, c_rotaref12_Subsets, [(4, none), (5, none)]⟩) := by rfl
theorem e_bits_Rank : F fn_bits_Rank = some (.code ⟨25, c_bits_Rank, [(2, none), (3, none)]⟩) := by rfl
theorem e_rotaref12_Rank : F fn_rotaref12_Rank = some (.code ⟨36, c_rotaref12_Rank, [(2, none), (3, none)]⟩) := by rfl
theorem e_bits_Unrank : F fn_bits_Unrank = some (.code ⟨53, c_bits_Unrank, [(4, none), (5, none)]⟩) := by rfl
theorem e_rotaref12_Unrank : F fn_rotaref12_Unrank = some (.code ⟨46, c_rotaref12_Unrank, [(4, none), (5, none)]⟩) := by rfl
theorem e_bits_Next : F fn_bits_Next = some (.code ⟨45, c_bits_Next, [(4, none), (5, none)]⟩) := by rfl
theorem e_rotaref12_Next : F fn_rotaref12_Next = some (.code ⟨87, c_rotaref12_Next, [(4, none), (5, none)]⟩) := by rfl
theorem e_bits_Of : F fn_bits_Of = some (.code ⟨24, c_bits_Of, [(2, none), (3, none)]⟩) := by rfl
theorem e_bits_all : F fn_bits_all = some (.code ⟨4, c_bits_all, [(2, none)]⟩) := by rfl
theorem e_rotaref12_Bools : F fn_rotaref12_Bools = some (.code ⟨17, c_rotaref12_Bools, [(2, (some (some 64)))]⟩) := by rfl
theorem e_bits_OnesCount64 : F fn_bits_OnesCount64 = some (.code ⟨35, c_bits_OnesCount64, [(2, none)]⟩) := by rfl
theorem e_bits_table : F fn_bits_table = some (.code ⟨34, c_bits_table, [(0, (some (some 3782)))]⟩) := by rfl
theorem e_rotaref12_Number : F fn_rotaref12_Number = some (.code ⟨17, c_rotaref12_Number, [(2, none)]⟩) := by rfl
theorem e_bits_all_1 : F fn_bits_all_1 = some (.code ⟨14, c_bits_all_1, []⟩) := by rfl
theorem e_bits_TrailingZeros64 : F fn_bits_TrailingZeros64 = some (.code ⟨14, c_bits_TrailingZeros64, [(2, none)]⟩) := by rfl
end Go.Proofs.YtnepeleepmhdaaaDoor.AM.D12
