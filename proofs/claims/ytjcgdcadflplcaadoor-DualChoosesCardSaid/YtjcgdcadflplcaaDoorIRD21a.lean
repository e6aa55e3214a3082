/- The functions of these laws as the abstract machine's code, printed by a program of this claim's. -/
import Derived.Test.YtjcgdcadflplcaaDoorA3
set_option linter.unusedVariables false
set_option linter.unusedSimpArgs false
set_option linter.unusedSectionVars false
namespace Go.Proofs.YtjcgdcadflplcaaDoor.AM.D21
open Go Go.Proofs.YtjcgdcadflplcaaDoor.AM
abbrev fn_rotalaw21_DualChooses : Nat := 3
abbrev fn_rotalaw21_DualOne : Nat := 4
abbrev fn_rotalaw21_DualSums : Nat := 5
abbrev fn_rotalaw21_DualSteps : Nat := 6
abbrev fn_rotalaw21_DualNames : Nat := 7
abbrev fn_dual_Choose : Nat := 9
abbrev fn_rotaref21_Choose : Nat := 10
abbrev fn_rotalaw21_alive : Nat := 11
abbrev fn_rotaref02_Great : Nat := 12
abbrev fn_rotalaw21_great : Nat := 13
abbrev fn_dual_New : Nat := 14
abbrev fn_config_Owner : Nat := 15
abbrev fn_frame_Encode : Nat := 16
abbrev fn_dual_Pair_Step : Nat := 17
abbrev fn_rotalaw21_wrong : Nat := 18
abbrev fn_dual_Pair_Count : Nat := 19
abbrev fn_dual_Pair_Losses : Nat := 20
abbrev fn_rotaref02_Twin : Nat := 21
abbrev fn_rotaref21_New : Nat := 22
abbrev fn_rotaref21_Pair_Step : Nat := 23
abbrev fn_rotaref21_Frames : Nat := 24
abbrev fn_rotaref20_Ints : Nat := 25
abbrev fn_rotaref21_Pair_Count : Nat := 26
abbrev fn_rotaref21_Pair_Losses : Nat := 27
abbrev fn_dual_Pair_Blocked : Nat := 28
abbrev fn_rotalaw21_sent : Nat := 29
abbrev fn_rotalaw21_took : Nat := 30
abbrev fn_dual_Choose_1 : Nat := 31
abbrev fn_frame_Accept : Nat := 32
abbrev fn_rotaref03_Accept : Nat := 33
abbrev fn_bus_New : Nat := 34
abbrev fn_frame_state : Nat := 35
abbrev fn_sum_Sum : Nat := 36
abbrev fn_dual_Pair_none : Nat := 37
abbrev fn_bus_Bus_Carry : Nat := 38
abbrev fn_frame_Corrupt : Nat := 39
abbrev fn_rotaref07_New : Nat := 40
abbrev fn_rotaref07_Bus_Carry : Nat := 41
abbrev fn_bus_Bus_Blocked : Nat := 42
abbrev fn_frame_read : Nat := 43
abbrev fn_frame_checked : Nat := 44
abbrev fn_sum_More : Nat := 45
abbrev fn_rotaref03_told : Nat := 46
abbrev fn_rotaref03_State : Nat := 47
abbrev fn_rotaref03_sealed : Nat := 48
abbrev fn_config_Check : Nat := 49
abbrev fn_slices_Clone_int_int : Nat := 50
abbrev fn_bus_Bus_pass : Nat := 51
abbrev fn_bus_Bus_Carry_1 : Nat := 52
abbrev fn_bus_Bus_owner : Nat := 53
abbrev fn_slices_Clone_byte_byte : Nat := 54
abbrev fn_frame_bits : Nat := 55
abbrev fn_rotaref02_Check : Nat := 56
abbrev fn_rotaref07_Bus_Pass : Nat := 57
abbrev fn_rotaref07_Bus_owner : Nat := 58
abbrev fn_rotaref07_turned : Nat := 59
abbrev fn_atomic_Uint64_Load : Nat := 60
abbrev fn_frame_number : Nat := 61
abbrev fn_rotaref01_Sum : Nat := 62
abbrev fn_config_fine : Nat := 63
abbrev fn_slices_IndexFunc_api_Send_api_Send : Nat := 64
abbrev fn_bus_Bus_pass_1 : Nat := 65
abbrev fn_atomic_Uint64_Add : Nat := 66
abbrev fn_frame_bits_1 : Nat := 67
abbrev fn_rotaref02_nodes : Nat := 68
abbrev fn_rotaref02_clock : Nat := 69
abbrev fn_rotaref02_parts : Nat := 70
abbrev fn_rotaref02_windows : Nat := 71
abbrev fn_rotaref02_ports : Nat := 72
abbrev fn_rotaref02_links : Nat := 73
abbrev fn_rotaref07_bit : Nat := 74
abbrev fn_atomic_LoadUint64 : Nat := 75
abbrev fn_rotaref01_More : Nat := 76
abbrev fn_config_nodes : Nat := 77
abbrev fn_config_clocks : Nat := 78
abbrev fn_config_parts : Nat := 79
abbrev fn_config_windows : Nat := 80
abbrev fn_config_ports : Nat := 81
abbrev fn_config_links : Nat := 82
abbrev fn_atomic_AddUint64 : Nat := 83
abbrev fn_rotaref02_count : Nat := 84
abbrev fn_rotaref02_Precision : Nat := 85
abbrev fn_rotaref02_meet : Nat := 86
abbrev fn_rotaref02_Alone : Nat := 87
abbrev fn_rotaref02_is : Nat := 88
abbrev fn_rotaref01_steps : Nat := 89
abbrev fn_config_within : Nat := 90
abbrev fn_slices_Contains_int_int : Nat := 91
abbrev fn_config_Precision : Nat := 92
abbrev fn_config_pairs : Nat := 93
abbrev fn_config_meet : Nat := 94
abbrev fn_config_port : Nat := 95
abbrev fn_slices_Index_int_int : Nat := 96
abbrev fn_config_pairs_1 : Nat := 97

-- F 3 rota/rotalaw21.DualChooses: bads 0, calls [9, 10]
abbrev o_rotalaw21_DualChooses_0 : List IOper := [⟨(some 4), .box 24 (.t 1), none⟩,
  ⟨(some 5), .box 26 (.t 2), none⟩,
  ⟨(some 6), .mv (.k (.c (.bool false))), none⟩]
abbrev o_rotalaw21_DualChooses_1 : List IOper := [⟨(some 13), .iaA 2 1 (.t 5) (.k (.c (.int .i64 0))), none⟩,
  ⟨(some 14), .ld none (.t 13), none⟩,
  ⟨(some 15), .len false (.t 14), none⟩,
  ⟨(some 16), .bin .gtr (.t 15) (.k (.c (.int .i64 200))), none⟩,
  ⟨(some 17), .mv (.t 16), none⟩,
  ⟨(some 18), .iaA 2 1 (.t 5) (.k (.c (.int .i64 1))), some (17, false)⟩,
  ⟨(some 19), .ld none (.t 18), some (17, false)⟩,
  ⟨(some 20), .len false (.t 19), some (17, false)⟩,
  ⟨(some 21), .bin .gtr (.t 20) (.k (.c (.int .i64 200))), some (17, false)⟩,
  ⟨(some 22), .pick (.t 17) (.k (.c (.bool true))) (.t 21), none⟩]
abbrev o_rotalaw21_DualChooses_2 : List IOper := [⟨(some 6), .mv (.k (.c (.bool true))), none⟩]
abbrev o_rotalaw21_DualChooses_3 : List IOper := [⟨(some 7), .new 26 (.agg [(.sl none 0 0 false), (.sl none 0 0 false)]), none⟩]
abbrev o_rotalaw21_DualChooses_4 : List IOper := [⟨(some 8), .mv (.k (.c (.int .i64 0))), none⟩]
abbrev o_rotalaw21_DualChooses_5 : List IOper := [⟨(some 23), .mv (.t 8), none⟩,
  ⟨(some 24), .bin .lss (.t 23) (.k (.c (.int .i64 2))), none⟩]
abbrev o_rotalaw21_DualChooses_6 : List IOper := [⟨(some 27), .mv (.t 8), none⟩,
  ⟨(some 28), .iaA 2 1 (.t 5) (.t 27), none⟩,
  ⟨(some 29), .ld none (.t 28), none⟩,
  ⟨(some 30), .eq .sl true (.t 29) (.k (.c (.sl none 0 0 false))), none⟩]
abbrev o_rotalaw21_DualChooses_7 : List IOper := [⟨(some 31), .mv (.t 8), none⟩,
  ⟨(some 32), .bsl 5 0 [] [], none⟩,
  ⟨(some 33), .mv (.t 8), none⟩,
  ⟨(some 34), .iaA 2 1 (.t 5) (.t 33), none⟩,
  ⟨(some 35), .ld none (.t 34), none⟩,
  ⟨(some 36), .app 5 1 1 (.t 32) (.t 35), none⟩,
  ⟨(some 37), .iaA 2 1 (.t 7) (.t 31), none⟩,
  ⟨none, .st 1 (.t 37) (.t 36), none⟩]
abbrev o_rotalaw21_DualChooses_8 : List IOper := [⟨(some 25), .mv (.t 8), none⟩,
  ⟨(some 26), .bin .add (.t 25) (.k (.c (.int .i64 1))), none⟩,
  ⟨(some 8), .mv (.t 26), none⟩]
def b_rotalaw21_DualChooses_9 : IC := (.seq (.seq (.ops o_rotalaw21_DualChooses_5) (.cond (.t 24) .skip (.exit 0))) (.seq (.block 1 (.seq (.ops o_rotalaw21_DualChooses_6) (.cond (.t 30) (.ops o_rotalaw21_DualChooses_7) .skip))) (.ops o_rotalaw21_DualChooses_8)))
abbrev o_rotalaw21_DualChooses_10 : List IOper := [⟨(some 39), .mv (.t 0), none⟩,
  ⟨(some 40), .ld (some 2) (.t 4), none⟩,
  ⟨(some 41), .iaA 2 1 (.t 7) (.k (.c (.int .i64 0))), none⟩,
  ⟨(some 42), .ld none (.t 41), none⟩,
  ⟨(some 43), .iaA 2 1 (.t 7) (.k (.c (.int .i64 1))), none⟩,
  ⟨(some 44), .ld none (.t 43), none⟩,
  ⟨(some 45), .call (.k (.c (.fn fn_dual_Choose [] []))) [(.t 39), (.t 40), (.t 42), (.t 44)], none⟩,
  ⟨(some 38), .mv (.t 45), none⟩,
  ⟨(some 46), .ext (.t 38) 0, none⟩,
  ⟨(some 47), .ext (.t 38) 1, none⟩,
  ⟨(some 9), .new 29 (.agg (List.replicate 2 (.int .i64 0) ++ [(.int .u16 0)] ++ List.replicate 64 (.int .u8 0))), none⟩,
  ⟨none, .st 67 (.t 9) (.t 46), none⟩,
  ⟨(some 10), .mv (.t 47), none⟩]
abbrev o_rotalaw21_DualChooses_11 : List IOper := [⟨(some 49), .mv (.t 0), none⟩,
  ⟨(some 50), .ld (some 2) (.t 4), none⟩,
  ⟨(some 51), .iaA 2 1 (.t 5) (.k (.c (.int .i64 0))), none⟩,
  ⟨(some 52), .ld none (.t 51), none⟩,
  ⟨(some 53), .iaA 2 1 (.t 5) (.k (.c (.int .i64 1))), none⟩,
  ⟨(some 54), .ld none (.t 53), none⟩,
  ⟨(some 55), .call (.k (.c (.fn fn_rotaref21_Choose [] []))) [(.t 49), (.t 50), (.t 52), (.t 54)], none⟩,
  ⟨(some 48), .mv (.t 55), none⟩,
  ⟨(some 56), .ext (.t 48) 0, none⟩,
  ⟨(some 57), .ext (.t 48) 1, none⟩,
  ⟨(some 11), .new 29 (.agg (List.replicate 2 (.int .i64 0) ++ [(.int .u16 0)] ++ List.replicate 64 (.int .u8 0))), none⟩,
  ⟨none, .st 67 (.t 11) (.t 56), none⟩,
  ⟨(some 12), .mv (.t 57), none⟩]
abbrev o_rotalaw21_DualChooses_12 : List IOper := [⟨(some 58), .ld (some 67) (.t 9), none⟩,
  ⟨(some 59), .ld (some 67) (.t 11), none⟩,
  ⟨(some 60), .eqagg [.int, .int, .int, .int, .int, .int, .int, .int, .int, .int, .int, .int, .int, .int, .int, .int, .int, .int, .int, .int, .int, .int, .int, .int, .int, .int, .int, .int, .int, .int, .int, .int, .int, .int, .int, .int, .int, .int, .int, .int, .int, .int, .int, .int, .int, .int, .int, .int, .int, .int, .int, .int, .int, .int, .int, .int, .int, .int, .int, .int, .int, .int, .int, .int, .int, .int, .int] false (.t 58) (.t 59), none⟩,
  ⟨(some 61), .mv (.t 60), none⟩,
  ⟨(some 62), .mv (.t 10), some (61, true)⟩,
  ⟨(some 63), .mv (.t 12), some (61, true)⟩,
  ⟨(some 64), .bin .eql (.t 62) (.t 63), some (61, true)⟩,
  ⟨(some 65), .pick (.t 61) (.t 64) (.k (.c (.bool false))), none⟩,
  ⟨(some 66), .mv (.t 65), none⟩,
  ⟨(some 67), .iaA 2 1 (.t 7) (.k (.c (.int .i64 0))), some (66, true)⟩,
  ⟨(some 68), .ld none (.t 67), some (66, true)⟩,
  ⟨(some 69), .b2s (.t 68), some (66, true)⟩,
  ⟨(some 70), .iaA 2 1 (.t 5) (.k (.c (.int .i64 0))), some (66, true)⟩,
  ⟨(some 71), .ld none (.t 70), some (66, true)⟩,
  ⟨(some 72), .b2s (.t 71), some (66, true)⟩,
  ⟨(some 73), .bin .eql (.t 69) (.t 72), some (66, true)⟩,
  ⟨(some 74), .pick (.t 66) (.t 73) (.k (.c (.bool false))), none⟩,
  ⟨(some 75), .mv (.t 74), none⟩,
  ⟨(some 76), .iaA 2 1 (.t 7) (.k (.c (.int .i64 1))), some (75, true)⟩,
  ⟨(some 77), .ld none (.t 76), some (75, true)⟩,
  ⟨(some 78), .b2s (.t 77), some (75, true)⟩,
  ⟨(some 79), .iaA 2 1 (.t 5) (.k (.c (.int .i64 1))), some (75, true)⟩,
  ⟨(some 80), .ld none (.t 79), some (75, true)⟩,
  ⟨(some 81), .b2s (.t 80), some (75, true)⟩,
  ⟨(some 82), .bin .eql (.t 78) (.t 81), some (75, true)⟩,
  ⟨(some 83), .pick (.t 75) (.t 82) (.k (.c (.bool false))), none⟩,
  ⟨(some 6), .mv (.t 83), none⟩]
def c_rotalaw21_DualChooses : IC := (.seq (.ops o_rotalaw21_DualChooses_0) (.seq (.seq (.ops o_rotalaw21_DualChooses_1) (.cond (.t 22) (.seq (.ops o_rotalaw21_DualChooses_2) .ret) .skip)) (.seq (.ops o_rotalaw21_DualChooses_3) (.seq (.seq (.ops o_rotalaw21_DualChooses_4) (.block 0 (.loop b_rotalaw21_DualChooses_9))) (.seq (.ops o_rotalaw21_DualChooses_10) (.seq (.ops o_rotalaw21_DualChooses_11) (.seq (.ops o_rotalaw21_DualChooses_12) .ret)))))))
def i_rotalaw21_DualChooses : IFn := ⟨84, c_rotalaw21_DualChooses, [(6, none)]⟩

-- F 4 rota/rotalaw21.DualOne: bads 0, calls [11, 12, 13, 14, 15, 16, 17, 18]
abbrev o_rotalaw21_DualOne_0 : List IOper := [⟨(some 3), .box 39 (.t 0), none⟩,
  ⟨(some 4), .box 45 (.t 1), none⟩,
  ⟨(some 6), .mv (.k (.c (.bool false))), none⟩]
abbrev o_rotalaw21_DualOne_1 : List IOper := [⟨(some 27), .call (.k (.c (.fn fn_rotalaw21_alive [] []))) [], none⟩,
  ⟨(some 7), .mv (.t 27), none⟩]
abbrev o_rotalaw21_DualOne_2 : List IOper := [⟨(some 28), .ld (some 7) (.t 4), none⟩,
  ⟨(some 29), .bsl 45 1 (List.replicate 2 (.int .i64 0) ++ [(.int .u16 0)] ++ List.replicate 4 (.sl none 0 0 false)) [(0, 7, (.t 28))], none⟩,
  ⟨(some 8), .mv (.t 29), none⟩]
abbrev o_rotalaw21_DualOne_3 : List IOper := [⟨(some 30), .ld (some 12) (.t 3), none⟩,
  ⟨(some 31), .call (.k (.c (.fn fn_rotaref02_Great [] []))) [(.t 30)], none⟩,
  ⟨(some 32), .mv (.t 31), none⟩,
  ⟨(some 33), .mv (.t 8), some (32, false)⟩,
  ⟨(some 34), .call (.k (.c (.fn fn_rotalaw21_great [] []))) [(.t 33)], some (32, false)⟩,
  ⟨(some 35), .pick (.t 32) (.k (.c (.bool true))) (.t 34), none⟩,
  ⟨(some 36), .mv (.t 35), none⟩,
  ⟨(some 37), .fa 0 (.t 4), some (36, false)⟩,
  ⟨(some 38), .ld none (.t 37), some (36, false)⟩,
  ⟨(some 39), .bin .lss (.t 38) (.k (.c (.int .i64 0))), some (36, false)⟩,
  ⟨(some 40), .pick (.t 36) (.k (.c (.bool true))) (.t 39), none⟩,
  ⟨(some 41), .mv (.t 40), none⟩,
  ⟨(some 42), .fa 0 (.t 4), some (41, false)⟩,
  ⟨(some 43), .ld none (.t 42), some (41, false)⟩,
  ⟨(some 44), .bin .gtr (.t 43) (.k (.c (.int .i64 2147483647))), some (41, false)⟩,
  ⟨(some 45), .pick (.t 41) (.k (.c (.bool true))) (.t 44), none⟩,
  ⟨(some 46), .mv (.t 45), none⟩,
  ⟨(some 47), .mv (.t 7), some (46, false)⟩,
  ⟨(some 48), .un .not (.t 47), some (46, false)⟩,
  ⟨(some 49), .pick (.t 46) (.k (.c (.bool true))) (.t 48), none⟩]
abbrev o_rotalaw21_DualOne_4 : List IOper := [⟨(some 50), .mv (.t 7), none⟩,
  ⟨(some 6), .mv (.t 50), none⟩]
abbrev o_rotalaw21_DualOne_5 : List IOper := [⟨(some 52), .ld (some 12) (.t 3), none⟩,
  ⟨(some 53), .call (.k (.c (.fn fn_dual_New [] []))) [(.t 52)], none⟩,
  ⟨(some 51), .mv (.t 53), none⟩,
  ⟨(some 54), .ext (.t 51) 0, none⟩,
  ⟨(some 55), .ext (.t 51) 1, none⟩,
  ⟨(some 9), .mv (.t 54), none⟩,
  ⟨(some 10), .mv (.t 55), none⟩]
abbrev o_rotalaw21_DualOne_6 : List IOper := [⟨(some 56), .mv (.t 10), none⟩,
  ⟨(some 57), .bin .neq (.t 56) (.k (.c (.int .i64 0))), none⟩]
abbrev o_rotalaw21_DualOne_7 : List IOper := [⟨(some 58), .mv (.t 7), none⟩,
  ⟨(some 59), .mv (.t 58), none⟩,
  ⟨(some 60), .mv (.t 9), some (59, true)⟩,
  ⟨(some 61), .eq .ptr false (.t 60) (.k (.c (.ptr none))), some (59, true)⟩,
  ⟨(some 62), .pick (.t 59) (.t 61) (.k (.c (.bool false))), none⟩,
  ⟨(some 6), .mv (.t 62), none⟩]
abbrev o_rotalaw21_DualOne_8 : List IOper := [⟨(some 63), .ld (some 12) (.t 3), none⟩,
  ⟨(some 64), .fa 0 (.t 4), none⟩,
  ⟨(some 65), .ld none (.t 64), none⟩,
  ⟨(some 66), .call (.k (.c (.fn fn_config_Owner [] []))) [(.t 63), (.t 65)], none⟩,
  ⟨(some 11), .mv (.t 66), none⟩]
abbrev o_rotalaw21_DualOne_9 : List IOper := [⟨(some 67), .mv (.t 11), none⟩,
  ⟨(some 68), .fa 0 (.t 4), none⟩,
  ⟨(some 69), .ld none (.t 68), none⟩,
  ⟨(some 70), .fa 1 (.t 4), none⟩,
  ⟨(some 71), .fa 1 (.t 70), none⟩,
  ⟨(some 72), .ld none (.t 71), none⟩,
  ⟨(some 73), .build [(.int .i64 0), (.int .u16 0)] [(0, 1, (.t 69)), (1, 1, (.t 72))], none⟩,
  ⟨(some 74), .build (List.replicate 2 (.int .i64 0) ++ [(.int .u16 0)] ++ List.replicate 64 (.int .u8 0)) [(0, 1, (.t 67)), (1, 2, (.t 73))], none⟩,
  ⟨(some 12), .new 29 (.agg (List.replicate 2 (.int .i64 0) ++ [(.int .u16 0)] ++ List.replicate 64 (.int .u8 0))), none⟩,
  ⟨none, .st 67 (.t 12) (.t 74), none⟩]
abbrev o_rotalaw21_DualOne_10 : List IOper := [⟨(some 13), .mv (.k (.c (.int .i64 0))), none⟩]
abbrev o_rotalaw21_DualOne_11 : List IOper := [⟨(some 75), .mv (.t 13), none⟩,
  ⟨(some 76), .bin .lss (.t 75) (.k (.c (.int .i64 64))), none⟩,
  ⟨(some 77), .mv (.t 76), none⟩,
  ⟨(some 78), .fa 3 (.t 4), some (77, true)⟩,
  ⟨(some 79), .iaA 2 1 (.t 78) (.k (.c (.int .i64 0))), some (77, true)⟩,
  ⟨(some 80), .ld none (.t 79), some (77, true)⟩,
  ⟨(some 81), .len false (.t 80), some (77, true)⟩,
  ⟨(some 82), .bin .gtr (.t 81) (.k (.c (.int .i64 0))), some (77, true)⟩,
  ⟨(some 83), .pick (.t 77) (.t 82) (.k (.c (.bool false))), none⟩,
  ⟨(some 84), .mv (.t 83), none⟩,
  ⟨(some 85), .mv (.t 13), some (84, true)⟩,
  ⟨(some 86), .fa 3 (.t 4), some (84, true)⟩,
  ⟨(some 87), .iaA 2 1 (.t 86) (.k (.c (.int .i64 0))), some (84, true)⟩,
  ⟨(some 88), .ld none (.t 87), some (84, true)⟩,
  ⟨(some 89), .iaS 2 (.t 88) (.k (.c (.int .i64 0))), some (84, true)⟩,
  ⟨(some 90), .fa 1 (.t 89), some (84, true)⟩,
  ⟨(some 91), .ld none (.t 90), some (84, true)⟩,
  ⟨(some 92), .len false (.t 91), some (84, true)⟩,
  ⟨(some 93), .bin .lss (.t 85) (.t 92), some (84, true)⟩,
  ⟨(some 94), .pick (.t 84) (.t 93) (.k (.c (.bool false))), none⟩]
abbrev o_rotalaw21_DualOne_12 : List IOper := [⟨(some 97), .mv (.t 13), none⟩,
  ⟨(some 98), .fa 3 (.t 4), none⟩,
  ⟨(some 99), .iaA 2 1 (.t 98) (.k (.c (.int .i64 0))), none⟩,
  ⟨(some 100), .ld none (.t 99), none⟩,
  ⟨(some 101), .iaS 2 (.t 100) (.k (.c (.int .i64 0))), none⟩,
  ⟨(some 102), .fa 1 (.t 101), none⟩,
  ⟨(some 103), .ld none (.t 102), none⟩,
  ⟨(some 104), .mv (.t 13), none⟩,
  ⟨(some 105), .iaS 1 (.t 103) (.t 104), none⟩,
  ⟨(some 106), .ld none (.t 105), none⟩,
  ⟨(some 107), .fa 3 (.t 12), none⟩,
  ⟨(some 108), .iaA 64 1 (.t 107) (.t 97), none⟩,
  ⟨none, .st 1 (.t 108) (.t 106), none⟩]
abbrev o_rotalaw21_DualOne_13 : List IOper := [⟨(some 95), .mv (.t 13), none⟩,
  ⟨(some 96), .bin .add (.t 95) (.k (.c (.int .i64 1))), none⟩,
  ⟨(some 13), .mv (.t 96), none⟩]
def b_rotalaw21_DualOne_14 : IC := (.seq (.seq (.ops o_rotalaw21_DualOne_11) (.cond (.t 94) .skip (.exit 0))) (.seq (.block 1 (.ops o_rotalaw21_DualOne_12)) (.ops o_rotalaw21_DualOne_13)))
abbrev o_rotalaw21_DualOne_15 : List IOper := [⟨(some 110), .ld (some 67) (.t 12), none⟩,
  ⟨(some 111), .call (.k (.c (.fn fn_frame_Encode [] []))) [(.t 110)], none⟩,
  ⟨(some 109), .mv (.t 111), none⟩,
  ⟨(some 112), .ext (.t 109) 0, none⟩,
  ⟨(some 113), .ext (.t 109) 1, none⟩,
  ⟨(some 14), .mv (.t 112), none⟩,
  ⟨(some 15), .mv (.t 113), none⟩]
abbrev o_rotalaw21_DualOne_16 : List IOper := [⟨(some 114), .mv (.t 15), none⟩,
  ⟨(some 115), .bin .neq (.t 114) (.k (.c (.int .i64 0))), none⟩]
abbrev o_rotalaw21_DualOne_17 : List IOper := [⟨(some 6), .mv (.k (.c (.bool false))), none⟩]
abbrev o_rotalaw21_DualOne_18 : List IOper := [⟨(some 16), .mv (.k (.c (.int .i64 0))), none⟩]
abbrev o_rotalaw21_DualOne_19 : List IOper := [⟨(some 116), .mv (.t 2), none⟩]
abbrev o_rotalaw21_DualOne_20 : List IOper := [⟨(some 16), .mv (.k (.c (.int .i64 1))), none⟩]
abbrev o_rotalaw21_DualOne_21 : List IOper := [⟨(some 17), .new 41 (.agg [(.sl none 0 0 false), (.sl none 0 0 false)]), none⟩]
abbrev o_rotalaw21_DualOne_22 : List IOper := [⟨(some 18), .new 43 (.agg [(.sl none 0 0 false), (.sl none 0 0 false)]), none⟩]
abbrev o_rotalaw21_DualOne_23 : List IOper := [⟨(some 19), .mv (.k (.c (.int .i64 0))), none⟩]
abbrev o_rotalaw21_DualOne_24 : List IOper := [⟨(some 117), .mv (.t 19), none⟩,
  ⟨(some 118), .bin .lss (.t 117) (.k (.c (.int .i64 2))), none⟩]
abbrev o_rotalaw21_DualOne_25 : List IOper := [⟨(some 121), .mv (.t 19), none⟩,
  ⟨(some 122), .fa 3 (.t 4), none⟩,
  ⟨(some 123), .iaA 2 1 (.t 122) (.t 121), none⟩,
  ⟨(some 124), .ld none (.t 123), none⟩,
  ⟨(some 125), .len false (.t 124), none⟩,
  ⟨(some 126), .mv (.k (.c (.int .i64 0))), none⟩]
abbrev o_rotalaw21_DualOne_26 : List IOper := [⟨(some 127), .bin .lss (.t 126) (.t 125), none⟩]
abbrev o_rotalaw21_DualOne_27 : List IOper := [⟨(some 128), .iaS 2 (.t 124) (.t 126), none⟩,
  ⟨(some 129), .ld (some 2) (.t 128), none⟩,
  ⟨(some 21), .new 56 (.agg [(.int .i64 0), (.sl none 0 0 false)]), none⟩,
  ⟨none, .st 2 (.t 21) (.t 129), none⟩]
abbrev o_rotalaw21_DualOne_28 : List IOper := [⟨(some 130), .fa 0 (.t 21), none⟩,
  ⟨(some 131), .ld none (.t 130), none⟩,
  ⟨(some 132), .mv (.t 11), none⟩,
  ⟨(some 133), .bin .neq (.t 131) (.t 132), none⟩]
abbrev o_rotalaw21_DualOne_29 : List IOper := [⟨(some 134), .mv (.t 19), none⟩,
  ⟨(some 135), .mv (.t 19), none⟩,
  ⟨(some 136), .iaA 2 1 (.t 17) (.t 135), none⟩,
  ⟨(some 137), .ld none (.t 136), none⟩,
  ⟨(some 138), .ld (some 2) (.t 21), none⟩,
  ⟨(some 139), .bsl 56 1 [(.int .i64 0), (.sl none 0 0 false)] [(0, 2, (.t 138))], none⟩,
  ⟨(some 140), .app 56 2 32 (.t 137) (.t 139), none⟩,
  ⟨(some 141), .iaA 2 1 (.t 17) (.t 134), none⟩,
  ⟨none, .st 1 (.t 141) (.t 140), none⟩]
abbrev o_rotalaw21_DualOne_30 : List IOper := [⟨(some 142), .bin .add (.t 126) (.k (.c (.int .i64 1))), none⟩,
  ⟨(some 126), .mv (.t 142), none⟩]
def b_rotalaw21_DualOne_31 : IC := (.seq (.ops o_rotalaw21_DualOne_26) (.seq (.cond (.t 127) .skip (.exit 4)) (.seq (.block 5 (.seq (.ops o_rotalaw21_DualOne_27) (.seq (.ops o_rotalaw21_DualOne_28) (.cond (.t 133) (.ops o_rotalaw21_DualOne_29) .skip)))) (.ops o_rotalaw21_DualOne_30))))
abbrev o_rotalaw21_DualOne_32 : List IOper := [⟨(some 143), .mv (.t 19), none⟩,
  ⟨(some 144), .mv (.t 19), none⟩,
  ⟨(some 145), .iaA 2 1 (.t 17) (.t 144), none⟩,
  ⟨(some 146), .ld none (.t 145), none⟩,
  ⟨(some 147), .mv (.t 11), none⟩,
  ⟨(some 148), .mv (.t 14), none⟩,
  ⟨(some 149), .build [(.int .i64 0), (.sl none 0 0 false)] [(0, 1, (.t 147)), (1, 1, (.t 148))], none⟩,
  ⟨(some 150), .bsl 56 1 [(.int .i64 0), (.sl none 0 0 false)] [(0, 2, (.t 149))], none⟩,
  ⟨(some 151), .app 56 2 32 (.t 146) (.t 150), none⟩,
  ⟨(some 152), .iaA 2 1 (.t 17) (.t 143), none⟩,
  ⟨none, .st 1 (.t 152) (.t 151), none⟩]
abbrev o_rotalaw21_DualOne_33 : List IOper := [⟨(some 119), .mv (.t 19), none⟩,
  ⟨(some 120), .bin .add (.t 119) (.k (.c (.int .i64 1))), none⟩,
  ⟨(some 19), .mv (.t 120), none⟩]
def b_rotalaw21_DualOne_34 : IC := (.seq (.seq (.ops o_rotalaw21_DualOne_24) (.cond (.t 118) .skip (.exit 2))) (.seq (.block 3 (.seq (.seq (.ops o_rotalaw21_DualOne_25) (.block 4 (.loop b_rotalaw21_DualOne_31))) (.ops o_rotalaw21_DualOne_32))) (.ops o_rotalaw21_DualOne_33)))
abbrev o_rotalaw21_DualOne_35 : List IOper := [⟨(some 153), .mv (.t 16), none⟩,
  ⟨(some 154), .mv (.t 16), none⟩,
  ⟨(some 155), .fa 5 (.t 4), none⟩,
  ⟨(some 156), .iaA 2 1 (.t 155) (.t 154), none⟩,
  ⟨(some 157), .ld none (.t 156), none⟩,
  ⟨(some 158), .iaA 2 1 (.t 18) (.t 153), none⟩,
  ⟨none, .st 1 (.t 158) (.t 157), none⟩]
abbrev o_rotalaw21_DualOne_36 : List IOper := [⟨(some 160), .mv (.t 9), none⟩,
  ⟨(some 161), .fa 0 (.t 4), none⟩,
  ⟨(some 162), .ld none (.t 161), none⟩,
  ⟨(some 163), .fa 1 (.t 12), none⟩,
  ⟨(some 164), .ld (some 2) (.t 163), none⟩,
  ⟨(some 165), .ld (some 2) (.t 17), none⟩,
  ⟨(some 166), .ld (some 2) (.t 18), none⟩,
  ⟨(some 167), .call (.k (.c (.fn fn_dual_Pair_Step [] []))) [(.t 160), (.t 162), (.t 164), (.t 165), (.t 166)], none⟩,
  ⟨(some 159), .mv (.t 167), none⟩,
  ⟨(some 168), .ext (.t 159) 0, none⟩,
  ⟨(some 169), .ext (.t 159) 1, none⟩,
  ⟨(some 170), .ext (.t 159) 2, none⟩,
  ⟨(some 22), .mv (.t 168), none⟩,
  ⟨(some 23), .mv (.t 169), none⟩,
  ⟨(some 24), .mv (.t 170), none⟩]
abbrev o_rotalaw21_DualOne_37 : List IOper := [⟨(some 171), .mv (.t 24), none⟩,
  ⟨(some 172), .bin .neq (.t 171) (.k (.c (.int .i64 0))), none⟩,
  ⟨(some 173), .mv (.t 172), none⟩,
  ⟨(some 174), .mv (.t 22), some (173, false)⟩,
  ⟨(some 175), .len false (.t 174), some (173, false)⟩,
  ⟨(some 176), .fa 0 (.t 3), some (173, false)⟩,
  ⟨(some 177), .ld none (.t 176), some (173, false)⟩,
  ⟨(some 178), .bin .neq (.t 175) (.t 177), some (173, false)⟩,
  ⟨(some 179), .pick (.t 173) (.k (.c (.bool true))) (.t 178), none⟩,
  ⟨(some 180), .mv (.t 179), none⟩,
  ⟨(some 181), .mv (.t 23), some (180, false)⟩,
  ⟨(some 182), .len false (.t 181), some (180, false)⟩,
  ⟨(some 183), .fa 0 (.t 3), some (180, false)⟩,
  ⟨(some 184), .ld none (.t 183), some (180, false)⟩,
  ⟨(some 185), .bin .neq (.t 182) (.t 184), some (180, false)⟩,
  ⟨(some 186), .pick (.t 180) (.k (.c (.bool true))) (.t 185), none⟩]
abbrev o_rotalaw21_DualOne_38 : List IOper := [⟨(some 6), .mv (.k (.c (.bool false))), none⟩]
abbrev o_rotalaw21_DualOne_39 : List IOper := [⟨(some 187), .mv (.t 22), none⟩,
  ⟨(some 188), .len false (.t 187), none⟩,
  ⟨(some 189), .mv (.k (.c (.int .i64 0))), none⟩]
abbrev o_rotalaw21_DualOne_40 : List IOper := [⟨(some 190), .bin .lss (.t 189) (.t 188), none⟩]
abbrev o_rotalaw21_DualOne_41 : List IOper := [⟨(some 191), .mv (.t 189), none⟩,
  ⟨(some 25), .mv (.t 191), none⟩]
abbrev o_rotalaw21_DualOne_42 : List IOper := [⟨(some 26), .mv (.k (.c (.int .i64 3))), none⟩]
abbrev o_rotalaw21_DualOne_43 : List IOper := [⟨(some 192), .mv (.t 25), none⟩,
  ⟨(some 193), .mv (.t 11), none⟩,
  ⟨(some 194), .bin .neq (.t 192) (.t 193), none⟩,
  ⟨(some 195), .mv (.t 194), none⟩,
  ⟨(some 196), .mv (.t 25), some (195, true)⟩,
  ⟨(some 197), .mv (.t 16), some (195, true)⟩,
  ⟨(some 198), .iaA 2 1 (.t 18) (.t 197), some (195, true)⟩,
  ⟨(some 199), .ld none (.t 198), some (195, true)⟩,
  ⟨(some 200), .len false (.t 199), some (195, true)⟩,
  ⟨(some 201), .bin .lss (.t 196) (.t 200), some (195, true)⟩,
  ⟨(some 202), .pick (.t 195) (.t 201) (.k (.c (.bool false))), none⟩,
  ⟨(some 203), .mv (.t 202), none⟩,
  ⟨(some 204), .mv (.t 16), some (203, true)⟩,
  ⟨(some 205), .iaA 2 1 (.t 18) (.t 204), some (203, true)⟩,
  ⟨(some 206), .ld none (.t 205), some (203, true)⟩,
  ⟨(some 207), .mv (.t 25), some (203, true)⟩,
  ⟨(some 208), .iaS 3 (.t 206) (.t 207), some (203, true)⟩,
  ⟨(some 209), .ld (some 3) (.t 208), some (203, true)⟩,
  ⟨(some 210), .mv (.t 14), some (203, true)⟩,
  ⟨(some 211), .call (.k (.c (.fn fn_rotalaw21_wrong [] []))) [(.t 209), (.t 210)], some (203, true)⟩,
  ⟨(some 212), .pick (.t 203) (.t 211) (.k (.c (.bool false))), none⟩]
abbrev o_rotalaw21_DualOne_44 : List IOper := [⟨(some 213), .mv (.t 16), none⟩,
  ⟨(some 214), .bin .sub (.k (.c (.int .i64 2))) (.t 213), none⟩,
  ⟨(some 26), .mv (.t 214), none⟩]
abbrev o_rotalaw21_DualOne_45 : List IOper := [⟨(some 215), .mv (.t 22), none⟩,
  ⟨(some 216), .mv (.t 25), none⟩,
  ⟨(some 217), .iaS 67 (.t 215) (.t 216), none⟩,
  ⟨(some 218), .ld (some 67) (.t 217), none⟩,
  ⟨(some 219), .ld (some 67) (.t 12), none⟩,
  ⟨(some 220), .eqagg [.int, .int, .int, .int, .int, .int, .int, .int, .int, .int, .int, .int, .int, .int, .int, .int, .int, .int, .int, .int, .int, .int, .int, .int, .int, .int, .int, .int, .int, .int, .int, .int, .int, .int, .int, .int, .int, .int, .int, .int, .int, .int, .int, .int, .int, .int, .int, .int, .int, .int, .int, .int, .int, .int, .int, .int, .int, .int, .int, .int, .int, .int, .int, .int, .int, .int, .int] true (.t 218) (.t 219), none⟩,
  ⟨(some 221), .mv (.t 220), none⟩,
  ⟨(some 222), .mv (.t 23), some (221, false)⟩,
  ⟨(some 223), .mv (.t 25), some (221, false)⟩,
  ⟨(some 224), .iaS 1 (.t 222) (.t 223), some (221, false)⟩,
  ⟨(some 225), .ld none (.t 224), some (221, false)⟩,
  ⟨(some 226), .mv (.t 26), some (221, false)⟩,
  ⟨(some 227), .bin .neq (.t 225) (.t 226), some (221, false)⟩,
  ⟨(some 228), .pick (.t 221) (.k (.c (.bool true))) (.t 227), none⟩]
abbrev o_rotalaw21_DualOne_46 : List IOper := [⟨(some 6), .mv (.k (.c (.bool false))), none⟩]
abbrev o_rotalaw21_DualOne_47 : List IOper := [⟨(some 229), .bin .add (.t 189) (.k (.c (.int .i64 1))), none⟩,
  ⟨(some 189), .mv (.t 229), none⟩]
def b_rotalaw21_DualOne_48 : IC := (.seq (.ops o_rotalaw21_DualOne_40) (.seq (.cond (.t 190) .skip (.exit 6)) (.seq (.block 7 (.seq (.ops o_rotalaw21_DualOne_41) (.seq (.ops o_rotalaw21_DualOne_42) (.seq (.seq (.ops o_rotalaw21_DualOne_43) (.cond (.t 212) (.ops o_rotalaw21_DualOne_44) .skip)) (.seq (.ops o_rotalaw21_DualOne_45) (.cond (.t 228) (.seq (.ops o_rotalaw21_DualOne_46) .ret) .skip)))))) (.ops o_rotalaw21_DualOne_47))))
abbrev o_rotalaw21_DualOne_49 : List IOper := [⟨(some 230), .mv (.t 7), none⟩,
  ⟨(some 6), .mv (.t 230), none⟩]
def c_rotalaw21_DualOne : IC := (.seq (.ops o_rotalaw21_DualOne_0) (.seq (.ops o_rotalaw21_DualOne_1) (.seq (.ops o_rotalaw21_DualOne_2) (.seq (.seq (.ops o_rotalaw21_DualOne_3) (.cond (.t 49) (.seq (.ops o_rotalaw21_DualOne_4) .ret) .skip)) (.seq (.ops o_rotalaw21_DualOne_5) (.seq (.seq (.ops o_rotalaw21_DualOne_6) (.cond (.t 57) (.seq (.ops o_rotalaw21_DualOne_7) .ret) .skip)) (.seq (.ops o_rotalaw21_DualOne_8) (.seq (.ops o_rotalaw21_DualOne_9) (.seq (.seq (.ops o_rotalaw21_DualOne_10) (.block 0 (.loop b_rotalaw21_DualOne_14))) (.seq (.ops o_rotalaw21_DualOne_15) (.seq (.seq (.ops o_rotalaw21_DualOne_16) (.cond (.t 115) (.seq (.ops o_rotalaw21_DualOne_17) .ret) .skip)) (.seq (.ops o_rotalaw21_DualOne_18) (.seq (.seq (.ops o_rotalaw21_DualOne_19) (.cond (.t 116) (.ops o_rotalaw21_DualOne_20) .skip)) (.seq (.ops o_rotalaw21_DualOne_21) (.seq (.ops o_rotalaw21_DualOne_22) (.seq (.seq (.ops o_rotalaw21_DualOne_23) (.block 2 (.loop b_rotalaw21_DualOne_34))) (.seq (.ops o_rotalaw21_DualOne_35) (.seq (.ops o_rotalaw21_DualOne_36) (.seq (.seq (.ops o_rotalaw21_DualOne_37) (.cond (.t 186) (.seq (.ops o_rotalaw21_DualOne_38) .ret) .skip)) (.seq (.seq (.ops o_rotalaw21_DualOne_39) (.block 6 (.loop b_rotalaw21_DualOne_48))) (.seq (.ops o_rotalaw21_DualOne_49) .ret)))))))))))))))))))))
def i_rotalaw21_DualOne : IFn := ⟨231, c_rotalaw21_DualOne, [(6, none)]⟩

-- F 5 rota/rotalaw21.DualSums: bads 0, calls [11, 12, 13, 14, 17, 15, 19, 19, 19, 20]
abbrev o_rotalaw21_DualSums_0 : List IOper := [⟨(some 2), .box 39 (.t 0), none⟩,
  ⟨(some 4), .mv (.k (.c (.bool false))), none⟩]
abbrev o_rotalaw21_DualSums_1 : List IOper := [⟨(some 20), .call (.k (.c (.fn fn_rotalaw21_alive [] []))) [], none⟩,
  ⟨(some 5), .mv (.t 20), none⟩]
abbrev o_rotalaw21_DualSums_2 : List IOper := [⟨(some 21), .ld (some 12) (.t 2), none⟩,
  ⟨(some 22), .call (.k (.c (.fn fn_rotaref02_Great [] []))) [(.t 21)], none⟩,
  ⟨(some 23), .mv (.t 22), none⟩,
  ⟨(some 24), .mv (.t 1), some (23, false)⟩,
  ⟨(some 25), .call (.k (.c (.fn fn_rotalaw21_great [] []))) [(.t 24)], some (23, false)⟩,
  ⟨(some 26), .pick (.t 23) (.k (.c (.bool true))) (.t 25), none⟩,
  ⟨(some 27), .mv (.t 26), none⟩,
  ⟨(some 28), .mv (.t 5), some (27, false)⟩,
  ⟨(some 29), .un .not (.t 28), some (27, false)⟩,
  ⟨(some 30), .pick (.t 27) (.k (.c (.bool true))) (.t 29), none⟩]
abbrev o_rotalaw21_DualSums_3 : List IOper := [⟨(some 31), .mv (.t 5), none⟩,
  ⟨(some 4), .mv (.t 31), none⟩]
abbrev o_rotalaw21_DualSums_4 : List IOper := [⟨(some 33), .ld (some 12) (.t 2), none⟩,
  ⟨(some 34), .call (.k (.c (.fn fn_dual_New [] []))) [(.t 33)], none⟩,
  ⟨(some 32), .mv (.t 34), none⟩,
  ⟨(some 35), .ext (.t 32) 0, none⟩,
  ⟨(some 36), .ext (.t 32) 1, none⟩,
  ⟨(some 6), .mv (.t 35), none⟩,
  ⟨(some 7), .mv (.t 36), none⟩]
abbrev o_rotalaw21_DualSums_5 : List IOper := [⟨(some 37), .mv (.t 7), none⟩,
  ⟨(some 38), .bin .neq (.t 37) (.k (.c (.int .i64 0))), none⟩]
abbrev o_rotalaw21_DualSums_6 : List IOper := [⟨(some 39), .mv (.t 5), none⟩,
  ⟨(some 40), .mv (.t 39), none⟩,
  ⟨(some 41), .mv (.t 6), some (40, true)⟩,
  ⟨(some 42), .eq .ptr false (.t 41) (.k (.c (.ptr none))), some (40, true)⟩,
  ⟨(some 43), .pick (.t 40) (.t 42) (.k (.c (.bool false))), none⟩,
  ⟨(some 4), .mv (.t 43), none⟩]
abbrev o_rotalaw21_DualSums_7 : List IOper := [⟨(some 44), .mkmap none, none⟩,
  ⟨(some 8), .mv (.t 44), none⟩]
abbrev o_rotalaw21_DualSums_8 : List IOper := [⟨(some 45), .mv (.t 1), none⟩,
  ⟨(some 46), .len false (.t 45), none⟩,
  ⟨(some 47), .mv (.k (.c (.int .i64 0))), none⟩]
abbrev o_rotalaw21_DualSums_9 : List IOper := [⟨(some 48), .bin .lss (.t 47) (.t 46), none⟩]
abbrev o_rotalaw21_DualSums_10 : List IOper := [⟨(some 49), .mv (.t 47), none⟩,
  ⟨(some 9), .mv (.t 49), none⟩]
abbrev o_rotalaw21_DualSums_11 : List IOper := [⟨(some 51), .mv (.t 6), none⟩,
  ⟨(some 52), .mv (.t 1), none⟩,
  ⟨(some 53), .mv (.t 9), none⟩,
  ⟨(some 54), .iaS 7 (.t 52) (.t 53), none⟩,
  ⟨(some 55), .fa 0 (.t 54), none⟩,
  ⟨(some 56), .ld none (.t 55), none⟩,
  ⟨(some 57), .mv (.t 1), none⟩,
  ⟨(some 58), .mv (.t 9), none⟩,
  ⟨(some 59), .iaS 7 (.t 57) (.t 58), none⟩,
  ⟨(some 60), .fa 1 (.t 59), none⟩,
  ⟨(some 61), .ld (some 2) (.t 60), none⟩,
  ⟨(some 62), .mv (.t 1), none⟩,
  ⟨(some 63), .mv (.t 9), none⟩,
  ⟨(some 64), .iaS 7 (.t 62) (.t 63), none⟩,
  ⟨(some 65), .fa 3 (.t 64), none⟩,
  ⟨(some 66), .ld (some 2) (.t 65), none⟩,
  ⟨(some 67), .mv (.t 1), none⟩,
  ⟨(some 68), .mv (.t 9), none⟩,
  ⟨(some 69), .iaS 7 (.t 67) (.t 68), none⟩,
  ⟨(some 70), .fa 5 (.t 69), none⟩,
  ⟨(some 71), .ld (some 2) (.t 70), none⟩,
  ⟨(some 72), .call (.k (.c (.fn fn_dual_Pair_Step [] []))) [(.t 51), (.t 56), (.t 61), (.t 66), (.t 71)], none⟩,
  ⟨(some 50), .mv (.t 72), none⟩,
  ⟨(some 73), .ext (.t 50) 0, none⟩,
  ⟨(some 74), .ext (.t 50) 1, none⟩,
  ⟨(some 75), .ext (.t 50) 2, none⟩,
  ⟨(some 10), .mv (.t 73), none⟩,
  ⟨(some 11), .mv (.t 74), none⟩,
  ⟨(some 12), .mv (.t 75), none⟩]
abbrev o_rotalaw21_DualSums_12 : List IOper := [⟨(some 76), .mv (.t 12), none⟩,
  ⟨(some 77), .bin .eql (.t 76) (.k (.c (.int .i64 0))), none⟩]
abbrev o_rotalaw21_DualSums_13 : List IOper := [⟨(some 78), .mv (.t 8), none⟩,
  ⟨(some 79), .ld (some 12) (.t 2), none⟩,
  ⟨(some 80), .mv (.t 1), none⟩,
  ⟨(some 81), .mv (.t 9), none⟩,
  ⟨(some 82), .iaS 7 (.t 80) (.t 81), none⟩,
  ⟨(some 83), .fa 0 (.t 82), none⟩,
  ⟨(some 84), .ld none (.t 83), none⟩,
  ⟨(some 85), .call (.k (.c (.fn fn_config_Owner [] []))) [(.t 79), (.t 84)], none⟩,
  ⟨(some 86), .look .int (.c (.int .i64 0)) false (.t 78) (.t 85), none⟩,
  ⟨(some 87), .bin .add (.t 86) (.k (.c (.int .i64 1))), none⟩,
  ⟨none, .ins .int (.t 78) (.t 85) (.t 87), none⟩]
abbrev o_rotalaw21_DualSums_14 : List IOper := [⟨(some 88), .bin .add (.t 47) (.k (.c (.int .i64 1))), none⟩,
  ⟨(some 47), .mv (.t 88), none⟩]
def b_rotalaw21_DualSums_15 : IC := (.seq (.ops o_rotalaw21_DualSums_9) (.seq (.cond (.t 48) .skip (.exit 0)) (.seq (.block 1 (.seq (.ops o_rotalaw21_DualSums_10) (.seq (.ops o_rotalaw21_DualSums_11) (.seq (.ops o_rotalaw21_DualSums_12) (.cond (.t 77) (.ops o_rotalaw21_DualSums_13) .skip))))) (.ops o_rotalaw21_DualSums_14))))
abbrev o_rotalaw21_DualSums_16 : List IOper := [⟨(some 13), .mv (.k (.c (.int .i64 0))), none⟩,
  ⟨(some 14), .mv (.k (.c (.int .i64 0))), none⟩]
abbrev o_rotalaw21_DualSums_17 : List IOper := [⟨(some 15), .mv (.k (.c (.int .i64 0))), none⟩]
abbrev o_rotalaw21_DualSums_18 : List IOper := [⟨(some 89), .mv (.t 15), none⟩,
  ⟨(some 90), .fa 0 (.t 2), none⟩,
  ⟨(some 91), .ld none (.t 90), none⟩,
  ⟨(some 92), .bin .lss (.t 89) (.t 91), none⟩]
abbrev o_rotalaw21_DualSums_19 : List IOper := [⟨(some 16), .mv (.k (.c (.int .i64 0))), none⟩]
abbrev o_rotalaw21_DualSums_20 : List IOper := [⟨(some 17), .mv (.k (.c (.int .i64 0))), none⟩]
abbrev o_rotalaw21_DualSums_21 : List IOper := [⟨(some 95), .mv (.t 17), none⟩,
  ⟨(some 96), .bin .leq (.t 95) (.k (.c (.int .i64 4))), none⟩]
abbrev o_rotalaw21_DualSums_22 : List IOper := [⟨(some 99), .mv (.t 16), none⟩,
  ⟨(some 100), .mv (.t 6), none⟩,
  ⟨(some 101), .mv (.t 15), none⟩,
  ⟨(some 102), .mv (.t 17), none⟩,
  ⟨(some 103), .call (.k (.c (.fn fn_dual_Pair_Count [] []))) [(.t 100), (.t 101), (.t 102)], none⟩,
  ⟨(some 104), .bin .add (.t 99) (.t 103), none⟩,
  ⟨(some 16), .mv (.t 104), none⟩]
abbrev o_rotalaw21_DualSums_23 : List IOper := [⟨(some 97), .mv (.t 17), none⟩,
  ⟨(some 98), .bin .add (.t 97) (.k (.c (.int .i64 1))), none⟩,
  ⟨(some 17), .mv (.t 98), none⟩]
def b_rotalaw21_DualSums_24 : IC := (.seq (.seq (.ops o_rotalaw21_DualSums_21) (.cond (.t 96) .skip (.exit 4))) (.seq (.block 5 (.ops o_rotalaw21_DualSums_22)) (.ops o_rotalaw21_DualSums_23)))
abbrev o_rotalaw21_DualSums_25 : List IOper := [⟨(some 105), .mv (.t 16), none⟩,
  ⟨(some 106), .mv (.t 8), none⟩,
  ⟨(some 107), .mv (.t 15), none⟩,
  ⟨(some 108), .look .int (.c (.int .i64 0)) false (.t 106) (.t 107), none⟩,
  ⟨(some 109), .fa 0 (.t 2), none⟩,
  ⟨(some 110), .ld none (.t 109), none⟩,
  ⟨(some 111), .bin .sub (.t 110) (.k (.c (.int .i64 1))), none⟩,
  ⟨(some 112), .bin .mul (.t 108) (.t 111), none⟩,
  ⟨(some 113), .bin .neq (.t 105) (.t 112), none⟩]
abbrev o_rotalaw21_DualSums_26 : List IOper := [⟨(some 4), .mv (.k (.c (.bool false))), none⟩]
abbrev o_rotalaw21_DualSums_27 : List IOper := [⟨(some 114), .mv (.t 13), none⟩,
  ⟨(some 115), .mv (.t 6), none⟩,
  ⟨(some 116), .mv (.t 15), none⟩,
  ⟨(some 117), .call (.k (.c (.fn fn_dual_Pair_Count [] []))) [(.t 115), (.t 116), (.k (.c (.int .i64 2)))], none⟩,
  ⟨(some 118), .bin .add (.t 114) (.t 117), none⟩,
  ⟨(some 13), .mv (.t 118), none⟩]
abbrev o_rotalaw21_DualSums_28 : List IOper := [⟨(some 119), .mv (.t 14), none⟩,
  ⟨(some 120), .mv (.t 6), none⟩,
  ⟨(some 121), .mv (.t 15), none⟩,
  ⟨(some 122), .call (.k (.c (.fn fn_dual_Pair_Count [] []))) [(.t 120), (.t 121), (.k (.c (.int .i64 1)))], none⟩,
  ⟨(some 123), .bin .add (.t 119) (.t 122), none⟩,
  ⟨(some 14), .mv (.t 123), none⟩]
abbrev o_rotalaw21_DualSums_29 : List IOper := [⟨(some 93), .mv (.t 15), none⟩,
  ⟨(some 94), .bin .add (.t 93) (.k (.c (.int .i64 1))), none⟩,
  ⟨(some 15), .mv (.t 94), none⟩]
def b_rotalaw21_DualSums_30 : IC := (.seq (.seq (.ops o_rotalaw21_DualSums_18) (.cond (.t 92) .skip (.exit 2))) (.seq (.block 3 (.seq (.ops o_rotalaw21_DualSums_19) (.seq (.seq (.ops o_rotalaw21_DualSums_20) (.block 4 (.loop b_rotalaw21_DualSums_24))) (.seq (.seq (.ops o_rotalaw21_DualSums_25) (.cond (.t 113) (.seq (.ops o_rotalaw21_DualSums_26) .ret) .skip)) (.seq (.ops o_rotalaw21_DualSums_27) (.ops o_rotalaw21_DualSums_28)))))) (.ops o_rotalaw21_DualSums_29)))
abbrev o_rotalaw21_DualSums_31 : List IOper := [⟨(some 125), .mv (.t 6), none⟩,
  ⟨(some 126), .call (.k (.c (.fn fn_dual_Pair_Losses [] []))) [(.t 125)], none⟩,
  ⟨(some 124), .mv (.t 126), none⟩,
  ⟨(some 127), .ext (.t 124) 0, none⟩,
  ⟨(some 128), .ext (.t 124) 1, none⟩,
  ⟨(some 18), .mv (.t 127), none⟩,
  ⟨(some 19), .mv (.t 128), none⟩]
abbrev o_rotalaw21_DualSums_32 : List IOper := [⟨(some 129), .mv (.t 5), none⟩,
  ⟨(some 130), .mv (.t 129), none⟩,
  ⟨(some 131), .mv (.t 18), some (130, true)⟩,
  ⟨(some 132), .mv (.t 13), some (130, true)⟩,
  ⟨(some 133), .bin .eql (.t 131) (.t 132), some (130, true)⟩,
  ⟨(some 134), .pick (.t 130) (.t 133) (.k (.c (.bool false))), none⟩,
  ⟨(some 135), .mv (.t 134), none⟩,
  ⟨(some 136), .mv (.t 19), some (135, true)⟩,
  ⟨(some 137), .mv (.t 14), some (135, true)⟩,
  ⟨(some 138), .bin .eql (.t 136) (.t 137), some (135, true)⟩,
  ⟨(some 139), .pick (.t 135) (.t 138) (.k (.c (.bool false))), none⟩,
  ⟨(some 4), .mv (.t 139), none⟩]
def c_rotalaw21_DualSums : IC := (.seq (.ops o_rotalaw21_DualSums_0) (.seq (.ops o_rotalaw21_DualSums_1) (.seq (.seq (.ops o_rotalaw21_DualSums_2) (.cond (.t 30) (.seq (.ops o_rotalaw21_DualSums_3) .ret) .skip)) (.seq (.ops o_rotalaw21_DualSums_4) (.seq (.seq (.ops o_rotalaw21_DualSums_5) (.cond (.t 38) (.seq (.ops o_rotalaw21_DualSums_6) .ret) .skip)) (.seq (.ops o_rotalaw21_DualSums_7) (.seq (.seq (.ops o_rotalaw21_DualSums_8) (.block 0 (.loop b_rotalaw21_DualSums_15))) (.seq (.ops o_rotalaw21_DualSums_16) (.seq (.seq (.ops o_rotalaw21_DualSums_17) (.block 2 (.loop b_rotalaw21_DualSums_30))) (.seq (.ops o_rotalaw21_DualSums_31) (.seq (.ops o_rotalaw21_DualSums_32) .ret)))))))))))
def i_rotalaw21_DualSums : IFn := ⟨140, c_rotalaw21_DualSums, [(4, none)]⟩

-- F 6 rota/rotalaw21.DualSteps: bads 0, calls [12, 13, 21, 14, 21, 22, 17, 23, 24, 25, 19, 26, 20, 27, 28]
abbrev o_rotalaw21_DualSteps_0 : List IOper := [⟨(some 2), .box 39 (.t 0), none⟩,
  ⟨(some 4), .mv (.k (.c (.bool false))), none⟩]
abbrev o_rotalaw21_DualSteps_1 : List IOper := [⟨(some 24), .ld (some 12) (.t 2), none⟩,
  ⟨(some 25), .call (.k (.c (.fn fn_rotaref02_Great [] []))) [(.t 24)], none⟩,
  ⟨(some 26), .mv (.t 25), none⟩,
  ⟨(some 27), .mv (.t 1), some (26, false)⟩,
  ⟨(some 28), .call (.k (.c (.fn fn_rotalaw21_great [] []))) [(.t 27)], some (26, false)⟩,
  ⟨(some 29), .pick (.t 26) (.k (.c (.bool true))) (.t 28), none⟩]
abbrev o_rotalaw21_DualSteps_2 : List IOper := [⟨(some 4), .mv (.k (.c (.bool true))), none⟩]
abbrev o_rotalaw21_DualSteps_3 : List IOper := [⟨(some 30), .ld (some 12) (.t 2), none⟩,
  ⟨(some 31), .call (.k (.c (.fn fn_rotaref02_Twin [] []))) [(.t 30)], none⟩,
  ⟨(some 5), .new 39 (.agg ([(.int .i64 0)] ++ [(.sl none 0 0 false)] ++ List.replicate 6 (.int .i64 0) ++ List.replicate 4 (.sl none 0 0 false))), none⟩,
  ⟨none, .st 12 (.t 5) (.t 31), none⟩]
abbrev o_rotalaw21_DualSteps_4 : List IOper := [⟨(some 33), .ld (some 12) (.t 5), none⟩,
  ⟨(some 34), .call (.k (.c (.fn fn_dual_New [] []))) [(.t 33)], none⟩,
  ⟨(some 32), .mv (.t 34), none⟩,
  ⟨(some 35), .ext (.t 32) 0, none⟩,
  ⟨(some 36), .ext (.t 32) 1, none⟩,
  ⟨(some 6), .mv (.t 35), none⟩,
  ⟨(some 7), .mv (.t 36), none⟩]
abbrev o_rotalaw21_DualSteps_5 : List IOper := [⟨(some 38), .ld (some 12) (.t 2), none⟩,
  ⟨(some 39), .call (.k (.c (.fn fn_rotaref02_Twin [] []))) [(.t 38)], none⟩,
  ⟨(some 40), .call (.k (.c (.fn fn_rotaref21_New [] []))) [(.t 39)], none⟩,
  ⟨(some 37), .mv (.t 40), none⟩,
  ⟨(some 41), .ext (.t 37) 0, none⟩,
  ⟨(some 42), .ext (.t 37) 1, none⟩,
  ⟨(some 8), .new 80 (.agg ([(.int .i64 0)] ++ [(.sl none 0 0 false)] ++ List.replicate 6 (.int .i64 0) ++ List.replicate 5 (.sl none 0 0 false) ++ List.replicate 2 (.int .u64 0) ++ [(.sl none 0 0 false)] ++ List.replicate 2 (.int .u64 0) ++ List.replicate 80 (.int .i64 0))), none⟩,
  ⟨none, .st 98 (.t 8) (.t 41), none⟩,
  ⟨(some 9), .mv (.t 42), none⟩]
abbrev o_rotalaw21_DualSteps_6 : List IOper := [⟨(some 43), .mv (.t 7), none⟩,
  ⟨(some 44), .mv (.t 9), none⟩,
  ⟨(some 45), .bin .neq (.t 43) (.t 44), none⟩,
  ⟨(some 46), .mv (.t 45), none⟩,
  ⟨(some 47), .mv (.t 6), some (46, false)⟩,
  ⟨(some 48), .eq .ptr false (.t 47) (.k (.c (.ptr none))), some (46, false)⟩,
  ⟨(some 49), .mv (.t 9), some (46, false)⟩,
  ⟨(some 50), .bin .neq (.t 49) (.k (.c (.int .i64 0))), some (46, false)⟩,
  ⟨(some 51), .eq .bool true (.t 48) (.t 50), some (46, false)⟩,
  ⟨(some 52), .pick (.t 46) (.k (.c (.bool true))) (.t 51), none⟩]
abbrev o_rotalaw21_DualSteps_7 : List IOper := [⟨(some 4), .mv (.k (.c (.bool false))), none⟩]
abbrev o_rotalaw21_DualSteps_8 : List IOper := [⟨(some 53), .mv (.t 9), none⟩,
  ⟨(some 54), .bin .neq (.t 53) (.k (.c (.int .i64 0))), none⟩]
abbrev o_rotalaw21_DualSteps_9 : List IOper := [⟨(some 4), .mv (.k (.c (.bool true))), none⟩]
abbrev o_rotalaw21_DualSteps_10 : List IOper := [⟨(some 55), .mv (.t 1), none⟩,
  ⟨(some 56), .len false (.t 55), none⟩,
  ⟨(some 57), .mv (.k (.c (.int .i64 0))), none⟩]
abbrev o_rotalaw21_DualSteps_11 : List IOper := [⟨(some 58), .bin .lss (.t 57) (.t 56), none⟩]
abbrev o_rotalaw21_DualSteps_12 : List IOper := [⟨(some 59), .mv (.t 57), none⟩,
  ⟨(some 10), .mv (.t 59), none⟩]
abbrev o_rotalaw21_DualSteps_13 : List IOper := [⟨(some 60), .mv (.t 1), none⟩,
  ⟨(some 61), .mv (.t 10), none⟩,
  ⟨(some 62), .iaS 7 (.t 60) (.t 61), none⟩,
  ⟨(some 63), .ld (some 7) (.t 62), none⟩,
  ⟨(some 11), .new 45 (.agg (List.replicate 2 (.int .i64 0) ++ [(.int .u16 0)] ++ List.replicate 4 (.sl none 0 0 false))), none⟩,
  ⟨none, .st 7 (.t 11) (.t 63), none⟩]
abbrev o_rotalaw21_DualSteps_14 : List IOper := [⟨(some 65), .mv (.t 6), none⟩,
  ⟨(some 66), .fa 0 (.t 11), none⟩,
  ⟨(some 67), .ld none (.t 66), none⟩,
  ⟨(some 68), .fa 1 (.t 11), none⟩,
  ⟨(some 69), .ld (some 2) (.t 68), none⟩,
  ⟨(some 70), .fa 3 (.t 11), none⟩,
  ⟨(some 71), .ld (some 2) (.t 70), none⟩,
  ⟨(some 72), .fa 5 (.t 11), none⟩,
  ⟨(some 73), .ld (some 2) (.t 72), none⟩,
  ⟨(some 74), .call (.k (.c (.fn fn_dual_Pair_Step [] []))) [(.t 65), (.t 67), (.t 69), (.t 71), (.t 73)], none⟩,
  ⟨(some 64), .mv (.t 74), none⟩,
  ⟨(some 75), .ext (.t 64) 0, none⟩,
  ⟨(some 76), .ext (.t 64) 1, none⟩,
  ⟨(some 77), .ext (.t 64) 2, none⟩,
  ⟨(some 12), .mv (.t 75), none⟩,
  ⟨(some 13), .mv (.t 76), none⟩,
  ⟨(some 14), .mv (.t 77), none⟩]
abbrev o_rotalaw21_DualSteps_15 : List IOper := [⟨(some 79), .fa 0 (.t 11), none⟩,
  ⟨(some 80), .ld none (.t 79), none⟩,
  ⟨(some 81), .fa 1 (.t 11), none⟩,
  ⟨(some 82), .ld (some 2) (.t 81), none⟩,
  ⟨(some 83), .fa 3 (.t 11), none⟩,
  ⟨(some 84), .ld (some 2) (.t 83), none⟩,
  ⟨(some 85), .fa 5 (.t 11), none⟩,
  ⟨(some 86), .ld (some 2) (.t 85), none⟩,
  ⟨(some 87), .call (.k (.c (.fn fn_rotaref21_Pair_Step [] []))) [(.t 8), (.t 80), (.t 82), (.t 84), (.t 86)], none⟩,
  ⟨(some 78), .mv (.t 87), none⟩,
  ⟨(some 88), .ext (.t 78) 0, none⟩,
  ⟨(some 89), .ext (.t 78) 1, none⟩,
  ⟨(some 90), .ext (.t 78) 2, none⟩,
  ⟨(some 15), .mv (.t 88), none⟩,
  ⟨(some 16), .mv (.t 89), none⟩,
  ⟨(some 17), .mv (.t 90), none⟩]
abbrev o_rotalaw21_DualSteps_16 : List IOper := [⟨(some 91), .mv (.t 14), none⟩,
  ⟨(some 92), .mv (.t 17), none⟩,
  ⟨(some 93), .bin .neq (.t 91) (.t 92), none⟩,
  ⟨(some 94), .mv (.t 93), none⟩,
  ⟨(some 95), .mv (.t 12), some (94, false)⟩,
  ⟨(some 96), .mv (.t 15), some (94, false)⟩,
  ⟨(some 97), .call (.k (.c (.fn fn_rotaref21_Frames [] []))) [(.t 95), (.t 96)], some (94, false)⟩,
  ⟨(some 98), .un .not (.t 97), some (94, false)⟩,
  ⟨(some 99), .pick (.t 94) (.k (.c (.bool true))) (.t 98), none⟩,
  ⟨(some 100), .mv (.t 99), none⟩,
  ⟨(some 101), .mv (.t 13), some (100, false)⟩,
  ⟨(some 102), .mv (.t 16), some (100, false)⟩,
  ⟨(some 103), .call (.k (.c (.fn fn_rotaref20_Ints [] []))) [(.t 101), (.t 102)], some (100, false)⟩,
  ⟨(some 104), .un .not (.t 103), some (100, false)⟩,
  ⟨(some 105), .pick (.t 100) (.k (.c (.bool true))) (.t 104), none⟩]
abbrev o_rotalaw21_DualSteps_17 : List IOper := [⟨(some 4), .mv (.k (.c (.bool false))), none⟩]
abbrev o_rotalaw21_DualSteps_18 : List IOper := [⟨(some 106), .bin .add (.t 57) (.k (.c (.int .i64 1))), none⟩,
  ⟨(some 57), .mv (.t 106), none⟩]
def b_rotalaw21_DualSteps_19 : IC := (.seq (.ops o_rotalaw21_DualSteps_11) (.seq (.cond (.t 58) .skip (.exit 0)) (.seq (.block 1 (.seq (.ops o_rotalaw21_DualSteps_12) (.seq (.ops o_rotalaw21_DualSteps_13) (.seq (.ops o_rotalaw21_DualSteps_14) (.seq (.ops o_rotalaw21_DualSteps_15) (.seq (.ops o_rotalaw21_DualSteps_16) (.cond (.t 105) (.seq (.ops o_rotalaw21_DualSteps_17) .ret) .skip))))))) (.ops o_rotalaw21_DualSteps_18))))
abbrev o_rotalaw21_DualSteps_20 : List IOper := [⟨(some 18), .mv (.k (.c (.int .i64 (-1)))), none⟩]
abbrev o_rotalaw21_DualSteps_21 : List IOper := [⟨(some 107), .mv (.t 18), none⟩,
  ⟨(some 108), .bin .leq (.t 107) (.k (.c (.int .i64 16))), none⟩]
abbrev o_rotalaw21_DualSteps_22 : List IOper := [⟨(some 19), .mv (.k (.c (.int .i64 (-1)))), none⟩]
abbrev o_rotalaw21_DualSteps_23 : List IOper := [⟨(some 111), .mv (.t 19), none⟩,
  ⟨(some 112), .bin .leq (.t 111) (.k (.c (.int .i64 5))), none⟩]
abbrev o_rotalaw21_DualSteps_24 : List IOper := [⟨(some 115), .mv (.t 6), none⟩,
  ⟨(some 116), .mv (.t 18), none⟩,
  ⟨(some 117), .mv (.t 19), none⟩,
  ⟨(some 118), .call (.k (.c (.fn fn_dual_Pair_Count [] []))) [(.t 115), (.t 116), (.t 117)], none⟩,
  ⟨(some 119), .mv (.t 18), none⟩,
  ⟨(some 120), .mv (.t 19), none⟩,
  ⟨(some 121), .call (.k (.c (.fn fn_rotaref21_Pair_Count [] []))) [(.t 8), (.t 119), (.t 120)], none⟩,
  ⟨(some 122), .bin .neq (.t 118) (.t 121), none⟩]
abbrev o_rotalaw21_DualSteps_25 : List IOper := [⟨(some 4), .mv (.k (.c (.bool false))), none⟩]
abbrev o_rotalaw21_DualSteps_26 : List IOper := [⟨(some 113), .mv (.t 19), none⟩,
  ⟨(some 114), .bin .add (.t 113) (.k (.c (.int .i64 1))), none⟩,
  ⟨(some 19), .mv (.t 114), none⟩]
def b_rotalaw21_DualSteps_27 : IC := (.seq (.seq (.ops o_rotalaw21_DualSteps_23) (.cond (.t 112) .skip (.exit 4))) (.seq (.block 5 (.seq (.ops o_rotalaw21_DualSteps_24) (.cond (.t 122) (.seq (.ops o_rotalaw21_DualSteps_25) .ret) .skip))) (.ops o_rotalaw21_DualSteps_26)))
abbrev o_rotalaw21_DualSteps_28 : List IOper := [⟨(some 109), .mv (.t 18), none⟩,
  ⟨(some 110), .bin .add (.t 109) (.k (.c (.int .i64 1))), none⟩,
  ⟨(some 18), .mv (.t 110), none⟩]
def b_rotalaw21_DualSteps_29 : IC := (.seq (.seq (.ops o_rotalaw21_DualSteps_21) (.cond (.t 108) .skip (.exit 2))) (.seq (.block 3 (.seq (.ops o_rotalaw21_DualSteps_22) (.block 4 (.loop b_rotalaw21_DualSteps_27)))) (.ops o_rotalaw21_DualSteps_28)))
abbrev o_rotalaw21_DualSteps_30 : List IOper := [⟨(some 124), .mv (.t 6), none⟩,
  ⟨(some 125), .call (.k (.c (.fn fn_dual_Pair_Losses [] []))) [(.t 124)], none⟩,
  ⟨(some 123), .mv (.t 125), none⟩,
  ⟨(some 126), .ext (.t 123) 0, none⟩,
  ⟨(some 127), .ext (.t 123) 1, none⟩,
  ⟨(some 20), .mv (.t 126), none⟩,
  ⟨(some 21), .mv (.t 127), none⟩]
abbrev o_rotalaw21_DualSteps_31 : List IOper := [⟨(some 129), .call (.k (.c (.fn fn_rotaref21_Pair_Losses [] []))) [(.t 8)], none⟩,
  ⟨(some 128), .mv (.t 129), none⟩,
  ⟨(some 130), .ext (.t 128) 0, none⟩,
  ⟨(some 131), .ext (.t 128) 1, none⟩,
  ⟨(some 22), .mv (.t 130), none⟩,
  ⟨(some 23), .mv (.t 131), none⟩]
abbrev o_rotalaw21_DualSteps_32 : List IOper := [⟨(some 133), .mv (.t 22), none⟩,
  ⟨(some 132), .mv (.t 20), none⟩,
  ⟨(some 134), .bin .eql (.t 132) (.t 133), none⟩,
  ⟨(some 135), .mv (.t 134), none⟩,
  ⟨(some 137), .mv (.t 23), some (135, true)⟩,
  ⟨(some 136), .mv (.t 21), some (135, true)⟩,
  ⟨(some 138), .bin .eql (.t 136) (.t 137), some (135, true)⟩,
  ⟨(some 139), .pick (.t 135) (.t 138) (.k (.c (.bool false))), none⟩,
  ⟨(some 140), .mv (.t 139), none⟩,
  ⟨(some 147), .fa 12 (.t 8), some (140, true)⟩,
  ⟨(some 148), .iaA 2 3 (.t 147) (.k (.c (.int .i64 1))), some (140, true)⟩,
  ⟨(some 149), .fa 1 (.t 148), some (140, true)⟩,
  ⟨(some 150), .ld none (.t 149), some (140, true)⟩,
  ⟨(some 143), .fa 12 (.t 8), some (140, true)⟩,
  ⟨(some 144), .iaA 2 3 (.t 143) (.k (.c (.int .i64 0))), some (140, true)⟩,
  ⟨(some 145), .fa 1 (.t 144), some (140, true)⟩,
  ⟨(some 146), .ld none (.t 145), some (140, true)⟩,
  ⟨(some 151), .bin .add (.t 146) (.t 150), some (140, true)⟩,
  ⟨(some 141), .mv (.t 6), some (140, true)⟩,
  ⟨(some 142), .call (.k (.c (.fn fn_dual_Pair_Blocked [] []))) [(.t 141)], some (140, true)⟩,
  ⟨none, .same (some none) (.t 149) (.t 150), some (140, true)⟩,
  ⟨none, .same (some none) (.t 145) (.t 146), some (140, true)⟩,
  ⟨(some 152), .bin .eql (.t 142) (.t 151), some (140, true)⟩,
  ⟨(some 153), .pick (.t 140) (.t 152) (.k (.c (.bool false))), none⟩,
  ⟨(some 4), .mv (.t 153), none⟩]
def c_rotalaw21_DualSteps : IC := (.seq (.ops o_rotalaw21_DualSteps_0) (.seq (.seq (.ops o_rotalaw21_DualSteps_1) (.cond (.t 29) (.seq (.ops o_rotalaw21_DualSteps_2) .ret) .skip)) (.seq (.ops o_rotalaw21_DualSteps_3) (.seq (.ops o_rotalaw21_DualSteps_4) (.seq (.ops o_rotalaw21_DualSteps_5) (.seq (.seq (.ops o_rotalaw21_DualSteps_6) (.cond (.t 52) (.seq (.ops o_rotalaw21_DualSteps_7) .ret) .skip)) (.seq (.seq (.ops o_rotalaw21_DualSteps_8) (.cond (.t 54) (.seq (.ops o_rotalaw21_DualSteps_9) .ret) .skip)) (.seq (.seq (.ops o_rotalaw21_DualSteps_10) (.block 0 (.loop b_rotalaw21_DualSteps_19))) (.seq (.seq (.ops o_rotalaw21_DualSteps_20) (.block 2 (.loop b_rotalaw21_DualSteps_29))) (.seq (.ops o_rotalaw21_DualSteps_30) (.seq (.ops o_rotalaw21_DualSteps_31) (.seq (.ops o_rotalaw21_DualSteps_32) .ret))))))))))))
def i_rotalaw21_DualSteps : IFn := ⟨154, c_rotalaw21_DualSteps, [(4, none)]⟩

-- F 7 rota/rotalaw21.DualNames: bads 0, calls [29, 29, 30, 30, 30, 30, 14, 17, 17, 20, 11, 19, 28]
abbrev o_rotalaw21_DualNames_0 : List IOper := [⟨(some 0), .mv (.k (.c (.bool false))), none⟩]
abbrev o_rotalaw21_DualNames_1 : List IOper := [⟨(some 16), .call (.k (.c (.fn fn_rotalaw21_sent [] []))) [(.k (.c (.int .u8 7)))], none⟩,
  ⟨(some 17), .call (.k (.c (.fn fn_rotalaw21_sent [] []))) [(.k (.c (.int .u8 8)))], none⟩,
  ⟨(some 1), .mv (.t 16), none⟩,
  ⟨(some 2), .mv (.t 17), none⟩]
abbrev o_rotalaw21_DualNames_2 : List IOper := [⟨(some 18), .mv (.t 1), none⟩,
  ⟨(some 19), .mv (.t 2), none⟩,
  ⟨(some 20), .call (.k (.c (.fn fn_rotalaw21_took [] []))) [(.k (.c (.int .i64 0))), (.t 18), (.t 19), (.k (.c (.int .i64 4))), (.k (.c (.int .u8 0)))], none⟩,
  ⟨(some 21), .mv (.t 20), none⟩,
  ⟨(some 22), .call (.k (.c (.fn fn_rotalaw21_took [] []))) [(.k (.c (.int .i64 0))), (.k (.c (.sl none 0 0 false))), (.k (.c (.sl none 0 0 false))), (.k (.c (.int .i64 0))), (.k (.c (.int .u8 0)))], some (21, true)⟩,
  ⟨(some 23), .pick (.t 21) (.t 22) (.k (.c (.bool false))), none⟩,
  ⟨(some 24), .mv (.t 23), none⟩,
  ⟨(some 25), .mv (.t 1), some (24, true)⟩,
  ⟨(some 26), .mv (.t 1), some (24, true)⟩,
  ⟨(some 27), .call (.k (.c (.fn fn_rotalaw21_took [] []))) [(.k (.c (.int .i64 1))), (.t 25), (.t 26), (.k (.c (.int .i64 0))), (.k (.c (.int .u8 0)))], some (24, true)⟩,
  ⟨(some 28), .pick (.t 24) (.t 27) (.k (.c (.bool false))), none⟩,
  ⟨(some 29), .mv (.t 28), none⟩,
  ⟨(some 30), .bsl 5 0 [] [], some (29, true)⟩,
  ⟨(some 31), .mv (.t 1), some (29, true)⟩,
  ⟨(some 32), .call (.k (.c (.fn fn_rotalaw21_took [] []))) [(.k (.c (.int .i64 0))), (.t 30), (.t 31), (.k (.c (.int .i64 2))), (.k (.c (.int .u8 7)))], some (29, true)⟩,
  ⟨(some 33), .pick (.t 29) (.t 32) (.k (.c (.bool false))), none⟩,
  ⟨(some 3), .mv (.t 33), none⟩]
abbrev o_rotalaw21_DualNames_3 : List IOper := [⟨(some 35), .build ([(.int .i64 0)] ++ [(.sl none 0 0 false)] ++ List.replicate 6 (.int .i64 0) ++ List.replicate 4 (.sl none 0 0 false)) [], none⟩,
  ⟨(some 36), .call (.k (.c (.fn fn_dual_New [] []))) [(.t 35)], none⟩,
  ⟨(some 34), .mv (.t 36), none⟩,
  ⟨(some 37), .ext (.t 34) 0, none⟩,
  ⟨(some 38), .ext (.t 34) 1, none⟩,
  ⟨(some 4), .mv (.t 37), none⟩,
  ⟨(some 5), .mv (.t 38), none⟩]
abbrev o_rotalaw21_DualNames_4 : List IOper := [⟨(some 6), .mv (.k (.c (.ptr none))), none⟩]
abbrev o_rotalaw21_DualNames_5 : List IOper := [⟨(some 7), .new 93 (.agg ([(.int .i64 0)] ++ [(.sl none 0 0 false)] ++ List.replicate 6 (.int .i64 0) ++ List.replicate 4 (.sl none 0 0 false) ++ List.replicate 2 (.ptr none) ++ List.replicate 80 (.int .i64 0))), none⟩]
abbrev o_rotalaw21_DualNames_6 : List IOper := [⟨(some 40), .mv (.t 6), none⟩,
  ⟨(some 41), .build [(.int .i64 0), (.int .u16 0)] [], none⟩,
  ⟨(some 42), .build [(.sl none 0 0 false), (.sl none 0 0 false)] [], none⟩,
  ⟨(some 43), .build [(.sl none 0 0 false), (.sl none 0 0 false)] [], none⟩,
  ⟨(some 44), .call (.k (.c (.fn fn_dual_Pair_Step [] []))) [(.t 40), (.k (.c (.int .i64 0))), (.t 41), (.t 42), (.t 43)], none⟩,
  ⟨(some 39), .mv (.t 44), none⟩,
  ⟨(some 45), .ext (.t 39) 0, none⟩,
  ⟨(some 46), .ext (.t 39) 1, none⟩,
  ⟨(some 47), .ext (.t 39) 2, none⟩,
  ⟨(some 8), .mv (.t 45), none⟩,
  ⟨(some 9), .mv (.t 46), none⟩,
  ⟨(some 10), .mv (.t 47), none⟩]
abbrev o_rotalaw21_DualNames_7 : List IOper := [⟨(some 49), .build [(.int .i64 0), (.int .u16 0)] [], none⟩,
  ⟨(some 50), .build [(.sl none 0 0 false), (.sl none 0 0 false)] [], none⟩,
  ⟨(some 51), .build [(.sl none 0 0 false), (.sl none 0 0 false)] [], none⟩,
  ⟨(some 52), .call (.k (.c (.fn fn_dual_Pair_Step [] []))) [(.t 7), (.k (.c (.int .i64 (-1)))), (.t 49), (.t 50), (.t 51)], none⟩,
  ⟨(some 48), .mv (.t 52), none⟩,
  ⟨(some 53), .ext (.t 48) 0, none⟩,
  ⟨(some 54), .ext (.t 48) 1, none⟩,
  ⟨(some 55), .ext (.t 48) 2, none⟩,
  ⟨(some 11), .mv (.t 53), none⟩,
  ⟨(some 12), .mv (.t 54), none⟩,
  ⟨(some 13), .mv (.t 55), none⟩]
abbrev o_rotalaw21_DualNames_8 : List IOper := [⟨(some 57), .mv (.t 6), none⟩,
  ⟨(some 58), .call (.k (.c (.fn fn_dual_Pair_Losses [] []))) [(.t 57)], none⟩,
  ⟨(some 56), .mv (.t 58), none⟩,
  ⟨(some 59), .ext (.t 56) 0, none⟩,
  ⟨(some 60), .ext (.t 56) 1, none⟩,
  ⟨(some 14), .mv (.t 59), none⟩,
  ⟨(some 15), .mv (.t 60), none⟩]
abbrev o_rotalaw21_DualNames_9 : List IOper := [⟨(some 61), .mv (.k (.c (.bool true))), none⟩,
  ⟨(some 62), .call (.k (.c (.fn fn_rotalaw21_alive [] []))) [], some (61, true)⟩,
  ⟨(some 63), .pick (.t 61) (.t 62) (.k (.c (.bool false))), none⟩,
  ⟨(some 64), .mv (.t 63), none⟩,
  ⟨(some 65), .mv (.t 3), some (64, true)⟩,
  ⟨(some 66), .pick (.t 64) (.t 65) (.k (.c (.bool false))), none⟩,
  ⟨(some 67), .mv (.t 66), none⟩,
  ⟨(some 68), .mv (.t 5), some (67, true)⟩,
  ⟨(some 69), .bin .eql (.t 68) (.k (.c (.int .i64 21))), some (67, true)⟩,
  ⟨(some 70), .pick (.t 67) (.t 69) (.k (.c (.bool false))), none⟩,
  ⟨(some 71), .mv (.t 70), none⟩,
  ⟨(some 72), .mv (.t 10), some (71, true)⟩,
  ⟨(some 73), .bin .eql (.t 72) (.k (.c (.int .i64 1))), some (71, true)⟩,
  ⟨(some 74), .pick (.t 71) (.t 73) (.k (.c (.bool false))), none⟩,
  ⟨(some 75), .mv (.t 74), none⟩,
  ⟨(some 76), .mv (.t 13), some (75, true)⟩,
  ⟨(some 77), .bin .eql (.t 76) (.k (.c (.int .i64 1))), some (75, true)⟩,
  ⟨(some 78), .pick (.t 75) (.t 77) (.k (.c (.bool false))), none⟩,
  ⟨(some 79), .mv (.t 78), none⟩,
  ⟨(some 80), .mv (.t 6), some (79, true)⟩,
  ⟨(some 81), .call (.k (.c (.fn fn_dual_Pair_Count [] []))) [(.t 80), (.k (.c (.int .i64 0))), (.k (.c (.int .i64 0)))], some (79, true)⟩,
  ⟨(some 82), .bin .eql (.t 81) (.k (.c (.int .i64 0))), some (79, true)⟩,
  ⟨(some 83), .pick (.t 79) (.t 82) (.k (.c (.bool false))), none⟩,
  ⟨(some 84), .mv (.t 83), none⟩,
  ⟨(some 85), .call (.k (.c (.fn fn_dual_Pair_Blocked [] []))) [(.t 7)], some (84, true)⟩,
  ⟨(some 86), .bin .eql (.t 85) (.k (.c (.int .u64 0))), some (84, true)⟩,
  ⟨(some 87), .pick (.t 84) (.t 86) (.k (.c (.bool false))), none⟩,
  ⟨(some 88), .mv (.t 87), none⟩,
  ⟨(some 89), .mv (.t 14), some (88, true)⟩,
  ⟨(some 90), .bin .eql (.t 89) (.k (.c (.int .i64 0))), some (88, true)⟩,
  ⟨(some 91), .pick (.t 88) (.t 90) (.k (.c (.bool false))), none⟩,
  ⟨(some 92), .mv (.t 91), none⟩,
  ⟨(some 93), .mv (.t 15), some (92, true)⟩,
  ⟨(some 94), .bin .eql (.t 93) (.k (.c (.int .i64 0))), some (92, true)⟩,
  ⟨(some 95), .pick (.t 92) (.t 94) (.k (.c (.bool false))), none⟩,
  ⟨(some 0), .mv (.t 95), none⟩]
def c_rotalaw21_DualNames : IC := (.seq (.ops o_rotalaw21_DualNames_0) (.seq (.ops o_rotalaw21_DualNames_1) (.seq (.ops o_rotalaw21_DualNames_2) (.seq (.ops o_rotalaw21_DualNames_3) (.seq (.ops o_rotalaw21_DualNames_4) (.seq (.ops o_rotalaw21_DualNames_5) (.seq (.ops o_rotalaw21_DualNames_6) (.seq (.ops o_rotalaw21_DualNames_7) (.seq (.ops o_rotalaw21_DualNames_8) (.seq (.ops o_rotalaw21_DualNames_9) .ret))))))))))
def i_rotalaw21_DualNames : IFn := ⟨96, c_rotalaw21_DualNames, [(0, none)]⟩

-- F 9 rota/dual.Choose: bads 0, calls [31]
abbrev o_dual_Choose_0 : List IOper := [⟨(some 4), .box 3 (.t 0), none⟩,
  ⟨(some 5), .box 24 (.t 1), none⟩,
  ⟨(some 8), .new 29 (.agg (List.replicate 2 (.int .i64 0) ++ [(.int .u16 0)] ++ List.replicate 64 (.int .u8 0))), none⟩,
  ⟨(some 9), .mv (.k (.c (.int .i64 0))), none⟩]
abbrev o_dual_Choose_1 : List IOper := [⟨(some 15), .mv (.t 2), none⟩,
  ⟨(some 16), .mv (.t 3), none⟩,
  ⟨(some 17), .build [(.sl none 0 0 false), (.sl none 0 0 false)] [(0, 1, (.t 15)), (1, 1, (.t 16))], none⟩,
  ⟨(some 10), .new 26 (.agg [(.sl none 0 0 false), (.sl none 0 0 false)]), none⟩,
  ⟨none, .st 2 (.t 10) (.t 17), none⟩]
abbrev o_dual_Choose_2 : List IOper := [⟨(some 11), .new 94 (.agg (List.replicate 2 (.int .i64 0) ++ [(.int .u16 0)] ++ List.replicate 64 (.int .u8 0) ++ List.replicate 2 (.int .i64 0) ++ [(.int .u16 0)] ++ List.replicate 64 (.int .u8 0))), none⟩]
abbrev o_dual_Choose_3 : List IOper := [⟨(some 18), .mkfn fn_dual_Choose_1 [] [(.t 10), (.t 4), (.t 5), (.t 11)], none⟩,
  ⟨(some 12), .mv (.t 18), none⟩]
abbrev o_dual_Choose_4 : List IOper := [⟨(some 13), .mv (.k (.c (.int .i64 0))), none⟩]
abbrev o_dual_Choose_5 : List IOper := [⟨(some 19), .mv (.k (.c (.int .i64 0))), none⟩]
abbrev o_dual_Choose_6 : List IOper := [⟨(some 20), .bin .lss (.t 19) (.k (.c (.int .i64 2))), none⟩]
abbrev o_dual_Choose_7 : List IOper := [⟨(some 21), .mv (.t 19), none⟩,
  ⟨(some 14), .mv (.t 21), none⟩]
abbrev o_dual_Choose_8 : List IOper := [⟨(some 22), .mv (.t 12), none⟩,
  ⟨(some 23), .mv (.t 14), none⟩,
  ⟨(some 24), .call (.t 22) [(.t 23)], none⟩]
abbrev o_dual_Choose_9 : List IOper := [⟨(some 25), .mv (.t 13), none⟩,
  ⟨(some 26), .mv (.t 14), none⟩,
  ⟨(some 27), .bin .add (.k (.c (.int .i64 1))) (.t 26), none⟩,
  ⟨(some 28), .bin .add (.t 25) (.t 27), none⟩,
  ⟨(some 13), .mv (.t 28), none⟩]
abbrev o_dual_Choose_10 : List IOper := [⟨(some 29), .bin .add (.t 19) (.k (.c (.int .i64 1))), none⟩,
  ⟨(some 19), .mv (.t 29), none⟩]
def b_dual_Choose_11 : IC := (.seq (.ops o_dual_Choose_6) (.seq (.cond (.t 20) .skip (.exit 0)) (.seq (.block 1 (.seq (.ops o_dual_Choose_7) (.seq (.ops o_dual_Choose_8) (.cond (.t 24) (.ops o_dual_Choose_9) .skip)))) (.ops o_dual_Choose_10))))
abbrev o_dual_Choose_12 : List IOper := [⟨(some 31), .mv (.t 13), none⟩,
  ⟨(some 32), .bin .eql (.t 31) (.k (.c (.int .i64 3))), none⟩,
  ⟨(some 33), .mv (.t 32), none⟩,
  ⟨(some 34), .iaA 2 67 (.t 11) (.k (.c (.int .i64 0))), some (33, true)⟩,
  ⟨(some 35), .ld (some 67) (.t 34), some (33, true)⟩,
  ⟨(some 36), .iaA 2 67 (.t 11) (.k (.c (.int .i64 1))), some (33, true)⟩,
  ⟨(some 37), .ld (some 67) (.t 36), some (33, true)⟩,
  ⟨(some 38), .eqagg [.int, .int, .int, .int, .int, .int, .int, .int, .int, .int, .int, .int, .int, .int, .int, .int, .int, .int, .int, .int, .int, .int, .int, .int, .int, .int, .int, .int, .int, .int, .int, .int, .int, .int, .int, .int, .int, .int, .int, .int, .int, .int, .int, .int, .int, .int, .int, .int, .int, .int, .int, .int, .int, .int, .int, .int, .int, .int, .int, .int, .int, .int, .int, .int, .int, .int, .int] true (.t 35) (.t 37), some (33, true)⟩,
  ⟨(some 39), .pick (.t 33) (.t 38) (.k (.c (.bool false))), none⟩,
  ⟨(some 30), .mv (.t 39), none⟩]
abbrev o_dual_Choose_13 : List IOper := [⟨(some 40), .build (List.replicate 2 (.int .i64 0) ++ [(.int .u16 0)] ++ List.replicate 64 (.int .u8 0)) [], none⟩,
  ⟨none, .st 67 (.t 8) (.t 40), none⟩,
  ⟨(some 9), .mv (.k (.c (.int .i64 4))), none⟩]
abbrev o_dual_Choose_14 : List IOper := [⟨(some 42), .mv (.t 13), none⟩,
  ⟨(some 43), .bin .eql (.t 42) (.k (.c (.int .i64 2))), none⟩,
  ⟨(some 41), .mv (.t 43), none⟩]
abbrev o_dual_Choose_15 : List IOper := [⟨(some 44), .iaA 2 67 (.t 11) (.k (.c (.int .i64 1))), none⟩,
  ⟨(some 45), .ld (some 67) (.t 44), none⟩,
  ⟨(some 46), .mv (.t 13), none⟩,
  ⟨none, .st 67 (.t 8) (.t 45), none⟩,
  ⟨(some 9), .mv (.t 46), none⟩]
abbrev o_dual_Choose_16 : List IOper := [⟨(some 48), .mv (.t 13), none⟩,
  ⟨(some 49), .bin .eql (.t 48) (.k (.c (.int .i64 0))), none⟩,
  ⟨(some 47), .mv (.t 49), none⟩]
abbrev o_dual_Choose_17 : List IOper := [⟨(some 50), .build (List.replicate 2 (.int .i64 0) ++ [(.int .u16 0)] ++ List.replicate 64 (.int .u8 0)) [], none⟩,
  ⟨(some 51), .mv (.t 13), none⟩,
  ⟨none, .st 67 (.t 8) (.t 50), none⟩,
  ⟨(some 9), .mv (.t 51), none⟩]
abbrev o_dual_Choose_18 : List IOper := [⟨(some 52), .iaA 2 67 (.t 11) (.k (.c (.int .i64 0))), none⟩,
  ⟨(some 53), .ld (some 67) (.t 52), none⟩,
  ⟨(some 54), .mv (.t 13), none⟩,
  ⟨none, .st 67 (.t 8) (.t 53), none⟩,
  ⟨(some 9), .mv (.t 54), none⟩]
def c_dual_Choose : IC := (.seq (.ops o_dual_Choose_0) (.seq (.ops o_dual_Choose_1) (.seq (.ops o_dual_Choose_2) (.seq (.ops o_dual_Choose_3) (.seq (.ops o_dual_Choose_4) (.seq (.seq (.ops o_dual_Choose_5) (.block 0 (.loop b_dual_Choose_11))) (.seq (.block 2 (.seq (.ops o_dual_Choose_12) (.cond (.t 30) (.seq (.ops o_dual_Choose_13) .ret) (.seq (.ops o_dual_Choose_14) (.cond (.t 41) (.seq (.ops o_dual_Choose_15) .ret) (.seq (.ops o_dual_Choose_16) (.cond (.t 47) (.seq (.ops o_dual_Choose_17) .ret) .skip))))))) (.seq (.ops o_dual_Choose_18) .ret))))))))
def i_dual_Choose : IFn := ⟨55, c_dual_Choose, [(8, (some (some 67))), (9, none)]⟩

-- F 10 rota/rotaref21.Choose: bads 0, calls [33, 33]
abbrev o_rotaref21_Choose_0 : List IOper := [⟨(some 5), .box 24 (.t 1), none⟩,
  ⟨(some 8), .new 29 (.agg (List.replicate 2 (.int .i64 0) ++ [(.int .u16 0)] ++ List.replicate 64 (.int .u8 0))), none⟩,
  ⟨(some 9), .mv (.k (.c (.int .i64 0))), none⟩]
abbrev o_rotaref21_Choose_1 : List IOper := [⟨(some 15), .mv (.t 2), none⟩,
  ⟨(some 16), .mv (.t 0), none⟩,
  ⟨(some 17), .ld (some 2) (.t 5), none⟩,
  ⟨(some 18), .call (.k (.c (.fn fn_rotaref03_Accept [] []))) [(.t 15), (.t 16), (.t 17)], none⟩,
  ⟨(some 14), .mv (.t 18), none⟩,
  ⟨(some 19), .ext (.t 14) 0, none⟩,
  ⟨(some 20), .ext (.t 14) 1, none⟩,
  ⟨(some 10), .new 29 (.agg (List.replicate 2 (.int .i64 0) ++ [(.int .u16 0)] ++ List.replicate 64 (.int .u8 0))), none⟩,
  ⟨none, .st 67 (.t 10) (.t 19), none⟩,
  ⟨(some 11), .mv (.t 20), none⟩]
abbrev o_rotaref21_Choose_2 : List IOper := [⟨(some 22), .mv (.t 3), none⟩,
  ⟨(some 23), .mv (.t 0), none⟩,
  ⟨(some 24), .ld (some 2) (.t 5), none⟩,
  ⟨(some 25), .call (.k (.c (.fn fn_rotaref03_Accept [] []))) [(.t 22), (.t 23), (.t 24)], none⟩,
  ⟨(some 21), .mv (.t 25), none⟩,
  ⟨(some 26), .ext (.t 21) 0, none⟩,
  ⟨(some 27), .ext (.t 21) 1, none⟩,
  ⟨(some 12), .new 29 (.agg (List.replicate 2 (.int .i64 0) ++ [(.int .u16 0)] ++ List.replicate 64 (.int .u8 0))), none⟩,
  ⟨none, .st 67 (.t 12) (.t 26), none⟩,
  ⟨(some 13), .mv (.t 27), none⟩]
abbrev o_rotaref21_Choose_3 : List IOper := [⟨(some 29), .mv (.t 11), none⟩,
  ⟨(some 30), .bin .eql (.t 29) (.k (.c (.int .i64 0))), none⟩,
  ⟨(some 31), .mv (.t 30), none⟩,
  ⟨(some 32), .mv (.t 13), some (31, true)⟩,
  ⟨(some 33), .bin .eql (.t 32) (.k (.c (.int .i64 0))), some (31, true)⟩,
  ⟨(some 34), .pick (.t 31) (.t 33) (.k (.c (.bool false))), none⟩,
  ⟨(some 35), .mv (.t 34), none⟩,
  ⟨(some 36), .ld (some 67) (.t 10), some (35, true)⟩,
  ⟨(some 37), .ld (some 67) (.t 12), some (35, true)⟩,
  ⟨(some 38), .eqagg [.int, .int, .int, .int, .int, .int, .int, .int, .int, .int, .int, .int, .int, .int, .int, .int, .int, .int, .int, .int, .int, .int, .int, .int, .int, .int, .int, .int, .int, .int, .int, .int, .int, .int, .int, .int, .int, .int, .int, .int, .int, .int, .int, .int, .int, .int, .int, .int, .int, .int, .int, .int, .int, .int, .int, .int, .int, .int, .int, .int, .int, .int, .int, .int, .int, .int, .int] false (.t 36) (.t 37), some (35, true)⟩,
  ⟨(some 39), .pick (.t 35) (.t 38) (.k (.c (.bool false))), none⟩,
  ⟨(some 28), .mv (.t 39), none⟩]
abbrev o_rotaref21_Choose_4 : List IOper := [⟨(some 40), .ld (some 67) (.t 10), none⟩,
  ⟨none, .st 67 (.t 8) (.t 40), none⟩,
  ⟨(some 9), .mv (.k (.c (.int .i64 3))), none⟩]
abbrev o_rotaref21_Choose_5 : List IOper := [⟨(some 42), .mv (.t 11), none⟩,
  ⟨(some 43), .bin .eql (.t 42) (.k (.c (.int .i64 0))), none⟩,
  ⟨(some 44), .mv (.t 43), none⟩,
  ⟨(some 45), .mv (.t 13), some (44, true)⟩,
  ⟨(some 46), .bin .eql (.t 45) (.k (.c (.int .i64 0))), some (44, true)⟩,
  ⟨(some 47), .pick (.t 44) (.t 46) (.k (.c (.bool false))), none⟩,
  ⟨(some 41), .mv (.t 47), none⟩]
abbrev o_rotaref21_Choose_6 : List IOper := [⟨(some 48), .build (List.replicate 2 (.int .i64 0) ++ [(.int .u16 0)] ++ List.replicate 64 (.int .u8 0)) [], none⟩,
  ⟨none, .st 67 (.t 8) (.t 48), none⟩,
  ⟨(some 9), .mv (.k (.c (.int .i64 4))), none⟩]
abbrev o_rotaref21_Choose_7 : List IOper := [⟨(some 50), .mv (.t 11), none⟩,
  ⟨(some 51), .bin .eql (.t 50) (.k (.c (.int .i64 0))), none⟩,
  ⟨(some 49), .mv (.t 51), none⟩]
abbrev o_rotaref21_Choose_8 : List IOper := [⟨(some 52), .ld (some 67) (.t 10), none⟩,
  ⟨none, .st 67 (.t 8) (.t 52), none⟩,
  ⟨(some 9), .mv (.k (.c (.int .i64 1))), none⟩]
abbrev o_rotaref21_Choose_9 : List IOper := [⟨(some 54), .mv (.t 13), none⟩,
  ⟨(some 55), .bin .eql (.t 54) (.k (.c (.int .i64 0))), none⟩,
  ⟨(some 53), .mv (.t 55), none⟩]
abbrev o_rotaref21_Choose_10 : List IOper := [⟨(some 56), .ld (some 67) (.t 12), none⟩,
  ⟨none, .st 67 (.t 8) (.t 56), none⟩,
  ⟨(some 9), .mv (.k (.c (.int .i64 2))), none⟩]
abbrev o_rotaref21_Choose_11 : List IOper := [⟨(some 57), .build (List.replicate 2 (.int .i64 0) ++ [(.int .u16 0)] ++ List.replicate 64 (.int .u8 0)) [], none⟩,
  ⟨none, .st 67 (.t 8) (.t 57), none⟩,
  ⟨(some 9), .mv (.k (.c (.int .i64 0))), none⟩]
def c_rotaref21_Choose : IC := (.seq (.ops o_rotaref21_Choose_0) (.seq (.ops o_rotaref21_Choose_1) (.seq (.ops o_rotaref21_Choose_2) (.seq (.block 0 (.seq (.ops o_rotaref21_Choose_3) (.cond (.t 28) (.seq (.ops o_rotaref21_Choose_4) .ret) (.seq (.ops o_rotaref21_Choose_5) (.cond (.t 41) (.seq (.ops o_rotaref21_Choose_6) .ret) (.seq (.ops o_rotaref21_Choose_7) (.cond (.t 49) (.seq (.ops o_rotaref21_Choose_8) .ret) (.seq (.ops o_rotaref21_Choose_9) (.cond (.t 53) (.seq (.ops o_rotaref21_Choose_10) .ret) .skip))))))))) (.seq (.ops o_rotaref21_Choose_11) .ret)))))
def i_rotaref21_Choose : IFn := ⟨58, c_rotaref21_Choose, [(8, (some (some 67))), (9, none)]⟩

-- F 11 rota/rotalaw21.alive: bads 0, calls [29, 30, 30, 30]
abbrev o_rotalaw21_alive_0 : List IOper := [⟨(some 0), .mv (.k (.c (.bool false))), none⟩]
abbrev o_rotalaw21_alive_1 : List IOper := [⟨(some 2), .call (.k (.c (.fn fn_rotalaw21_sent [] []))) [(.k (.c (.int .u8 7)))], none⟩,
  ⟨(some 1), .mv (.t 2), none⟩]
abbrev o_rotalaw21_alive_2 : List IOper := [⟨(some 3), .mv (.t 1), none⟩,
  ⟨(some 4), .mv (.t 1), none⟩,
  ⟨(some 5), .call (.k (.c (.fn fn_rotalaw21_took [] []))) [(.k (.c (.int .i64 0))), (.t 3), (.t 4), (.k (.c (.int .i64 3))), (.k (.c (.int .u8 7)))], none⟩,
  ⟨(some 6), .mv (.t 5), none⟩,
  ⟨(some 7), .mv (.t 1), some (6, true)⟩,
  ⟨(some 8), .call (.k (.c (.fn fn_rotalaw21_took [] []))) [(.k (.c (.int .i64 0))), (.t 7), (.k (.c (.sl none 0 0 false))), (.k (.c (.int .i64 1))), (.k (.c (.int .u8 7)))], some (6, true)⟩,
  ⟨(some 9), .pick (.t 6) (.t 8) (.k (.c (.bool false))), none⟩,
  ⟨(some 10), .mv (.t 9), none⟩,
  ⟨(some 11), .mv (.t 1), some (10, true)⟩,
  ⟨(some 12), .call (.k (.c (.fn fn_rotalaw21_took [] []))) [(.k (.c (.int .i64 0))), (.k (.c (.sl none 0 0 false))), (.t 11), (.k (.c (.int .i64 2))), (.k (.c (.int .u8 7)))], some (10, true)⟩,
  ⟨(some 13), .pick (.t 10) (.t 12) (.k (.c (.bool false))), none⟩,
  ⟨(some 0), .mv (.t 13), none⟩]
def c_rotalaw21_alive : IC := (.seq (.ops o_rotalaw21_alive_0) (.seq (.ops o_rotalaw21_alive_1) (.seq (.ops o_rotalaw21_alive_2) .ret)))
def i_rotalaw21_alive : IFn := ⟨14, c_rotalaw21_alive, [(0, none)]⟩

-- F 12 rota/rotaref02.Great: bads 0, calls []
abbrev o_rotaref02_Great_0 : List IOper := [⟨(some 1), .box 39 (.t 0), none⟩,
  ⟨(some 2), .mv (.k (.c (.bool false))), none⟩]
abbrev o_rotaref02_Great_1 : List IOper := [⟨(some 6), .fa 1 (.t 1), none⟩,
  ⟨(some 7), .ld none (.t 6), none⟩,
  ⟨(some 8), .len false (.t 7), none⟩,
  ⟨(some 9), .fa 9 (.t 1), none⟩,
  ⟨(some 10), .ld none (.t 9), none⟩,
  ⟨(some 11), .len false (.t 10), none⟩,
  ⟨(some 12), .bin .add (.t 8) (.t 11), none⟩,
  ⟨(some 3), .mv (.t 12), none⟩]
abbrev o_rotaref02_Great_2 : List IOper := [⟨(some 4), .mv (.k (.c (.int .i64 0))), none⟩]
abbrev o_rotaref02_Great_3 : List IOper := [⟨(some 13), .mv (.t 4), none⟩,
  ⟨(some 14), .fa 9 (.t 1), none⟩,
  ⟨(some 15), .ld none (.t 14), none⟩,
  ⟨(some 16), .len false (.t 15), none⟩,
  ⟨(some 17), .bin .lss (.t 13) (.t 16), none⟩,
  ⟨(some 18), .mv (.t 17), none⟩,
  ⟨(some 19), .mv (.t 4), some (18, true)⟩,
  ⟨(some 20), .bin .lss (.t 19) (.k (.c (.int .i64 100))), some (18, true)⟩,
  ⟨(some 21), .pick (.t 18) (.t 20) (.k (.c (.bool false))), none⟩]
abbrev o_rotaref02_Great_4 : List IOper := [⟨(some 24), .mv (.t 3), none⟩,
  ⟨(some 25), .fa 9 (.t 1), none⟩,
  ⟨(some 26), .ld none (.t 25), none⟩,
  ⟨(some 27), .mv (.t 4), none⟩,
  ⟨(some 28), .iaS 1 (.t 26) (.t 27), none⟩,
  ⟨(some 29), .ld none (.t 28), none⟩,
  ⟨(some 30), .len false (.t 29), none⟩,
  ⟨(some 31), .bin .add (.t 24) (.t 30), none⟩,
  ⟨(some 3), .mv (.t 31), none⟩]
abbrev o_rotaref02_Great_5 : List IOper := [⟨(some 22), .mv (.t 4), none⟩,
  ⟨(some 23), .bin .add (.t 22) (.k (.c (.int .i64 1))), none⟩,
  ⟨(some 4), .mv (.t 23), none⟩]
def b_rotaref02_Great_6 : IC := (.seq (.seq (.ops o_rotaref02_Great_3) (.cond (.t 21) .skip (.exit 0))) (.seq (.block 1 (.ops o_rotaref02_Great_4)) (.ops o_rotaref02_Great_5)))
abbrev o_rotaref02_Great_7 : List IOper := [⟨(some 5), .mv (.k (.c (.int .i64 0))), none⟩]
abbrev o_rotaref02_Great_8 : List IOper := [⟨(some 32), .mv (.t 5), none⟩,
  ⟨(some 33), .fa 11 (.t 1), none⟩,
  ⟨(some 34), .ld none (.t 33), none⟩,
  ⟨(some 35), .len false (.t 34), none⟩,
  ⟨(some 36), .bin .lss (.t 32) (.t 35), none⟩,
  ⟨(some 37), .mv (.t 36), none⟩,
  ⟨(some 38), .mv (.t 5), some (37, true)⟩,
  ⟨(some 39), .bin .lss (.t 38) (.k (.c (.int .i64 100))), some (37, true)⟩,
  ⟨(some 40), .pick (.t 37) (.t 39) (.k (.c (.bool false))), none⟩]
abbrev o_rotaref02_Great_9 : List IOper := [⟨(some 43), .mv (.t 3), none⟩,
  ⟨(some 44), .fa 11 (.t 1), none⟩,
  ⟨(some 45), .ld none (.t 44), none⟩,
  ⟨(some 46), .mv (.t 5), none⟩,
  ⟨(some 47), .iaS 3 (.t 45) (.t 46), none⟩,
  ⟨(some 48), .fa 1 (.t 47), none⟩,
  ⟨(some 49), .ld none (.t 48), none⟩,
  ⟨(some 50), .len false (.t 49), none⟩,
  ⟨(some 51), .bin .add (.t 43) (.t 50), none⟩,
  ⟨(some 3), .mv (.t 51), none⟩]
abbrev o_rotaref02_Great_10 : List IOper := [⟨(some 41), .mv (.t 5), none⟩,
  ⟨(some 42), .bin .add (.t 41) (.k (.c (.int .i64 1))), none⟩,
  ⟨(some 5), .mv (.t 42), none⟩]
def b_rotaref02_Great_11 : IC := (.seq (.seq (.ops o_rotaref02_Great_8) (.cond (.t 40) .skip (.exit 2))) (.seq (.block 3 (.ops o_rotaref02_Great_9)) (.ops o_rotaref02_Great_10)))
abbrev o_rotaref02_Great_12 : List IOper := [⟨(some 52), .mv (.t 3), none⟩,
  ⟨(some 53), .bin .gtr (.t 52) (.k (.c (.int .i64 1000))), none⟩,
  ⟨(some 54), .mv (.t 53), none⟩,
  ⟨(some 55), .fa 8 (.t 1), some (54, false)⟩,
  ⟨(some 56), .ld none (.t 55), some (54, false)⟩,
  ⟨(some 57), .len false (.t 56), some (54, false)⟩,
  ⟨(some 58), .bin .gtr (.t 57) (.k (.c (.int .i64 100))), some (54, false)⟩,
  ⟨(some 59), .pick (.t 54) (.k (.c (.bool true))) (.t 58), none⟩,
  ⟨(some 60), .mv (.t 59), none⟩,
  ⟨(some 61), .fa 10 (.t 1), some (60, false)⟩,
  ⟨(some 62), .ld none (.t 61), some (60, false)⟩,
  ⟨(some 63), .len false (.t 62), some (60, false)⟩,
  ⟨(some 64), .bin .gtr (.t 63) (.k (.c (.int .i64 100))), some (60, false)⟩,
  ⟨(some 65), .pick (.t 60) (.k (.c (.bool true))) (.t 64), none⟩,
  ⟨(some 66), .mv (.t 65), none⟩,
  ⟨(some 67), .fa 11 (.t 1), some (66, false)⟩,
  ⟨(some 68), .ld none (.t 67), some (66, false)⟩,
  ⟨(some 69), .len false (.t 68), some (66, false)⟩,
  ⟨(some 70), .bin .gtr (.t 69) (.k (.c (.int .i64 100))), some (66, false)⟩,
  ⟨(some 71), .pick (.t 66) (.k (.c (.bool true))) (.t 70), none⟩,
  ⟨(some 2), .mv (.t 71), none⟩]
def c_rotaref02_Great : IC := (.seq (.ops o_rotaref02_Great_0) (.seq (.ops o_rotaref02_Great_1) (.seq (.seq (.ops o_rotaref02_Great_2) (.block 0 (.loop b_rotaref02_Great_6))) (.seq (.seq (.ops o_rotaref02_Great_7) (.block 2 (.loop b_rotaref02_Great_11))) (.seq (.ops o_rotaref02_Great_12) .ret)))))
def i_rotaref02_Great : IFn := ⟨72, c_rotaref02_Great, [(2, none)]⟩

-- F 13 rota/rotalaw21.great: bads 0, calls []
abbrev o_rotalaw21_great_0 : List IOper := [⟨(some 2), .mv (.k (.c (.bool false))), none⟩]
abbrev o_rotalaw21_great_1 : List IOper := [⟨(some 6), .mv (.t 0), none⟩,
  ⟨(some 7), .len false (.t 6), none⟩,
  ⟨(some 8), .bin .gtr (.t 7) (.k (.c (.int .i64 40))), none⟩]
abbrev o_rotalaw21_great_2 : List IOper := [⟨(some 2), .mv (.k (.c (.bool true))), none⟩]
abbrev o_rotalaw21_great_3 : List IOper := [⟨(some 9), .mv (.t 0), none⟩,
  ⟨(some 10), .len false (.t 9), none⟩,
  ⟨(some 11), .mv (.k (.c (.int .i64 0))), none⟩]
abbrev o_rotalaw21_great_4 : List IOper := [⟨(some 12), .bin .lss (.t 11) (.t 10), none⟩]
abbrev o_rotalaw21_great_5 : List IOper := [⟨(some 13), .mv (.t 11), none⟩,
  ⟨(some 3), .mv (.t 13), none⟩]
abbrev o_rotalaw21_great_6 : List IOper := [⟨(some 4), .mv (.k (.c (.int .i64 0))), none⟩]
abbrev o_rotalaw21_great_7 : List IOper := [⟨(some 14), .mv (.t 4), none⟩,
  ⟨(some 15), .bin .lss (.t 14) (.k (.c (.int .i64 2))), none⟩]
abbrev o_rotalaw21_great_8 : List IOper := [⟨(some 18), .mv (.t 0), none⟩,
  ⟨(some 19), .mv (.t 3), none⟩,
  ⟨(some 20), .mv (.t 4), none⟩,
  ⟨(some 21), .iaS 7 (.t 18) (.t 19), none⟩,
  ⟨(some 22), .fa 3 (.t 21), none⟩,
  ⟨(some 23), .iaA 2 1 (.t 22) (.t 20), none⟩,
  ⟨(some 24), .ld none (.t 23), none⟩,
  ⟨(some 25), .len false (.t 24), none⟩,
  ⟨(some 26), .bin .gtr (.t 25) (.k (.c (.int .i64 20))), none⟩,
  ⟨(some 27), .mv (.t 26), none⟩,
  ⟨(some 28), .mv (.t 0), some (27, false)⟩,
  ⟨(some 29), .mv (.t 3), some (27, false)⟩,
  ⟨(some 30), .mv (.t 4), some (27, false)⟩,
  ⟨(some 31), .iaS 7 (.t 28) (.t 29), some (27, false)⟩,
  ⟨(some 32), .fa 5 (.t 31), some (27, false)⟩,
  ⟨(some 33), .iaA 2 1 (.t 32) (.t 30), some (27, false)⟩,
  ⟨(some 34), .ld none (.t 33), some (27, false)⟩,
  ⟨(some 35), .len false (.t 34), some (27, false)⟩,
  ⟨(some 36), .bin .gtr (.t 35) (.k (.c (.int .i64 40))), some (27, false)⟩,
  ⟨(some 37), .pick (.t 27) (.k (.c (.bool true))) (.t 36), none⟩]
abbrev o_rotalaw21_great_9 : List IOper := [⟨(some 2), .mv (.k (.c (.bool true))), none⟩]
abbrev o_rotalaw21_great_10 : List IOper := [⟨(some 38), .mv (.t 0), none⟩,
  ⟨(some 39), .mv (.t 3), none⟩,
  ⟨(some 40), .mv (.t 4), none⟩,
  ⟨(some 41), .iaS 7 (.t 38) (.t 39), none⟩,
  ⟨(some 42), .fa 3 (.t 41), none⟩,
  ⟨(some 43), .iaA 2 1 (.t 42) (.t 40), none⟩,
  ⟨(some 44), .ld none (.t 43), none⟩,
  ⟨(some 45), .len false (.t 44), none⟩,
  ⟨(some 46), .mv (.k (.c (.int .i64 0))), none⟩]
abbrev o_rotalaw21_great_11 : List IOper := [⟨(some 47), .bin .lss (.t 46) (.t 45), none⟩]
abbrev o_rotalaw21_great_12 : List IOper := [⟨(some 48), .mv (.t 46), none⟩,
  ⟨(some 5), .mv (.t 48), none⟩]
abbrev o_rotalaw21_great_13 : List IOper := [⟨(some 49), .mv (.t 0), none⟩,
  ⟨(some 50), .mv (.t 3), none⟩,
  ⟨(some 51), .mv (.t 4), none⟩,
  ⟨(some 52), .iaS 7 (.t 49) (.t 50), none⟩,
  ⟨(some 53), .fa 3 (.t 52), none⟩,
  ⟨(some 54), .iaA 2 1 (.t 53) (.t 51), none⟩,
  ⟨(some 55), .ld none (.t 54), none⟩,
  ⟨(some 56), .mv (.t 5), none⟩,
  ⟨(some 57), .iaS 2 (.t 55) (.t 56), none⟩,
  ⟨(some 58), .fa 1 (.t 57), none⟩,
  ⟨(some 59), .ld none (.t 58), none⟩,
  ⟨(some 60), .len false (.t 59), none⟩,
  ⟨(some 61), .bin .gtr (.t 60) (.k (.c (.int .i64 200))), none⟩]
abbrev o_rotalaw21_great_14 : List IOper := [⟨(some 2), .mv (.k (.c (.bool true))), none⟩]
abbrev o_rotalaw21_great_15 : List IOper := [⟨(some 62), .bin .add (.t 46) (.k (.c (.int .i64 1))), none⟩,
  ⟨(some 46), .mv (.t 62), none⟩]
def b_rotalaw21_great_16 : IC := (.seq (.ops o_rotalaw21_great_11) (.seq (.cond (.t 47) .skip (.exit 4)) (.seq (.block 5 (.seq (.ops o_rotalaw21_great_12) (.seq (.ops o_rotalaw21_great_13) (.cond (.t 61) (.seq (.ops o_rotalaw21_great_14) .ret) .skip)))) (.ops o_rotalaw21_great_15))))
abbrev o_rotalaw21_great_17 : List IOper := [⟨(some 16), .mv (.t 4), none⟩,
  ⟨(some 17), .bin .add (.t 16) (.k (.c (.int .i64 1))), none⟩,
  ⟨(some 4), .mv (.t 17), none⟩]
def b_rotalaw21_great_18 : IC := (.seq (.seq (.ops o_rotalaw21_great_7) (.cond (.t 15) .skip (.exit 2))) (.seq (.block 3 (.seq (.seq (.ops o_rotalaw21_great_8) (.cond (.t 37) (.seq (.ops o_rotalaw21_great_9) .ret) .skip)) (.seq (.ops o_rotalaw21_great_10) (.block 4 (.loop b_rotalaw21_great_16))))) (.ops o_rotalaw21_great_17)))
abbrev o_rotalaw21_great_19 : List IOper := [⟨(some 63), .bin .add (.t 11) (.k (.c (.int .i64 1))), none⟩,
  ⟨(some 11), .mv (.t 63), none⟩]
def b_rotalaw21_great_20 : IC := (.seq (.ops o_rotalaw21_great_4) (.seq (.cond (.t 12) .skip (.exit 0)) (.seq (.block 1 (.seq (.ops o_rotalaw21_great_5) (.seq (.ops o_rotalaw21_great_6) (.block 2 (.loop b_rotalaw21_great_18))))) (.ops o_rotalaw21_great_19))))
abbrev o_rotalaw21_great_21 : List IOper := [⟨(some 2), .mv (.k (.c (.bool false))), none⟩]
def c_rotalaw21_great : IC := (.seq (.ops o_rotalaw21_great_0) (.seq (.seq (.ops o_rotalaw21_great_1) (.cond (.t 8) (.seq (.ops o_rotalaw21_great_2) .ret) .skip)) (.seq (.seq (.ops o_rotalaw21_great_3) (.block 0 (.loop b_rotalaw21_great_20))) (.seq (.ops o_rotalaw21_great_21) .ret))))
def i_rotalaw21_great : IFn := ⟨64, c_rotalaw21_great, [(2, none)]⟩

-- F 14 rota/dual.New: bads 0, calls [34]
abbrev o_dual_New_0 : List IOper := [⟨(some 1), .box 39 (.t 0), none⟩,
  ⟨(some 2), .mv (.k (.c (.ptr none))), none⟩,
  ⟨(some 3), .mv (.k (.c (.int .i64 0))), none⟩]
abbrev o_dual_New_1 : List IOper := [⟨(some 8), .build ([(.int .i64 0)] ++ [(.sl none 0 0 false)] ++ List.replicate 6 (.int .i64 0) ++ List.replicate 4 (.sl none 0 0 false) ++ List.replicate 2 (.ptr none) ++ List.replicate 80 (.int .i64 0)) [], none⟩,
  ⟨(some 9), .box 93 (.t 8), none⟩,
  ⟨(some 4), .mv (.t 9), none⟩]
abbrev o_dual_New_2 : List IOper := [⟨(some 10), .mv (.k (.c (.int .i64 0))), none⟩]
abbrev o_dual_New_3 : List IOper := [⟨(some 11), .bin .lss (.t 10) (.k (.c (.int .i64 2))), none⟩]
abbrev o_dual_New_4 : List IOper := [⟨(some 12), .mv (.t 10), none⟩,
  ⟨(some 5), .mv (.t 12), none⟩]
abbrev o_dual_New_5 : List IOper := [⟨(some 14), .ld (some 12) (.t 1), none⟩,
  ⟨(some 15), .call (.k (.c (.fn fn_bus_New [] []))) [(.t 14)], none⟩,
  ⟨(some 13), .mv (.t 15), none⟩,
  ⟨(some 16), .ext (.t 13) 0, none⟩,
  ⟨(some 17), .ext (.t 13) 1, none⟩,
  ⟨(some 6), .mv (.t 16), none⟩,
  ⟨(some 7), .mv (.t 17), none⟩]
abbrev o_dual_New_6 : List IOper := [⟨(some 18), .mv (.t 7), none⟩,
  ⟨(some 19), .bin .neq (.t 18) (.k (.c (.int .i64 0))), none⟩]
abbrev o_dual_New_7 : List IOper := [⟨(some 20), .mv (.t 7), none⟩,
  ⟨(some 2), .mv (.k (.c (.ptr none))), none⟩,
  ⟨(some 3), .mv (.t 20), none⟩]
abbrev o_dual_New_8 : List IOper := [⟨(some 21), .mv (.t 4), none⟩,
  ⟨(some 22), .mv (.t 5), none⟩,
  ⟨(some 23), .mv (.t 6), none⟩,
  ⟨(some 24), .nilck (.t 21), none⟩,
  ⟨(some 25), .fa 12 (.t 24), none⟩,
  ⟨(some 26), .iaA 2 1 (.t 25) (.t 22), none⟩,
  ⟨none, .st 1 (.t 26) (.t 23), none⟩]
abbrev o_dual_New_9 : List IOper := [⟨(some 27), .bin .add (.t 10) (.k (.c (.int .i64 1))), none⟩,
  ⟨(some 10), .mv (.t 27), none⟩]
def b_dual_New_10 : IC := (.seq (.ops o_dual_New_3) (.seq (.cond (.t 11) .skip (.exit 0)) (.seq (.block 1 (.seq (.ops o_dual_New_4) (.seq (.ops o_dual_New_5) (.seq (.seq (.ops o_dual_New_6) (.cond (.t 19) (.seq (.ops o_dual_New_7) .ret) .skip)) (.ops o_dual_New_8))))) (.ops o_dual_New_9))))
abbrev o_dual_New_11 : List IOper := [⟨(some 32), .fa 1 (.t 1), none⟩,
  ⟨(some 33), .ld none (.t 32), none⟩,
  ⟨(some 29), .fa 0 (.t 1), none⟩,
  ⟨(some 30), .ld none (.t 29), none⟩,
  ⟨(some 28), .mv (.t 4), none⟩,
  ⟨(some 31), .bsl 3 0 [] [], none⟩,
  ⟨(some 34), .app 3 1 8 (.t 31) (.t 33), none⟩,
  ⟨none, .same (some none) (.t 29) (.t 30), none⟩,
  ⟨(some 35), .build ([(.int .i64 0)] ++ [(.sl none 0 0 false)] ++ List.replicate 6 (.int .i64 0) ++ List.replicate 4 (.sl none 0 0 false)) [(0, 1, (.t 30)), (1, 1, (.t 34))], none⟩,
  ⟨(some 36), .nilck (.t 28), none⟩,
  ⟨(some 37), .fa 0 (.t 36), none⟩,
  ⟨none, .st 12 (.t 37) (.t 35), none⟩]
abbrev o_dual_New_12 : List IOper := [⟨(some 38), .mv (.t 4), none⟩,
  ⟨(some 2), .mv (.t 38), none⟩,
  ⟨(some 3), .mv (.k (.c (.int .i64 0))), none⟩]
def c_dual_New : IC := (.seq (.ops o_dual_New_0) (.seq (.ops o_dual_New_1) (.seq (.seq (.ops o_dual_New_2) (.block 0 (.loop b_dual_New_10))) (.seq (.ops o_dual_New_11) (.seq (.ops o_dual_New_12) .ret)))))
def i_dual_New : IFn := ⟨39, c_dual_New, [(2, none), (3, none)]⟩

-- F 15 rota/config.Owner: bads 0, calls []
abbrev o_config_Owner_0 : List IOper := [⟨(some 2), .box 39 (.t 0), none⟩,
  ⟨(some 4), .mv (.k (.c (.int .i64 0))), none⟩]
abbrev o_config_Owner_1 : List IOper := [⟨(some 5), .mv (.t 1), none⟩,
  ⟨(some 6), .bin .lss (.t 5) (.k (.c (.int .i64 0))), none⟩,
  ⟨(some 7), .mv (.t 6), none⟩,
  ⟨(some 8), .fa 0 (.t 2), some (7, false)⟩,
  ⟨(some 9), .ld none (.t 8), some (7, false)⟩,
  ⟨(some 10), .bin .lss (.t 9) (.k (.c (.int .i64 1))), some (7, false)⟩,
  ⟨(some 11), .pick (.t 7) (.k (.c (.bool true))) (.t 10), none⟩,
  ⟨(some 12), .mv (.t 11), none⟩,
  ⟨(some 13), .fa 1 (.t 2), some (12, false)⟩,
  ⟨(some 14), .ld none (.t 13), some (12, false)⟩,
  ⟨(some 15), .len false (.t 14), some (12, false)⟩,
  ⟨(some 16), .fa 0 (.t 2), some (12, false)⟩,
  ⟨(some 17), .ld none (.t 16), some (12, false)⟩,
  ⟨(some 18), .bin .neq (.t 15) (.t 17), some (12, false)⟩,
  ⟨(some 19), .pick (.t 12) (.k (.c (.bool true))) (.t 18), none⟩]
abbrev o_config_Owner_2 : List IOper := [⟨(some 4), .mv (.k (.c (.int .i64 (-1)))), none⟩]
abbrev o_config_Owner_3 : List IOper := [⟨(some 20), .fa 1 (.t 2), none⟩,
  ⟨(some 21), .ld none (.t 20), none⟩,
  ⟨(some 22), .mv (.t 1), none⟩,
  ⟨(some 23), .fa 0 (.t 2), none⟩,
  ⟨(some 24), .ld none (.t 23), none⟩,
  ⟨(some 25), .bin .rem (.t 22) (.t 24), none⟩,
  ⟨(some 26), .iaS 1 (.t 21) (.t 25), none⟩,
  ⟨(some 27), .ld none (.t 26), none⟩,
  ⟨(some 4), .mv (.t 27), none⟩]
def c_config_Owner : IC := (.seq (.ops o_config_Owner_0) (.seq (.seq (.ops o_config_Owner_1) (.cond (.t 19) (.seq (.ops o_config_Owner_2) .ret) .skip)) (.seq (.ops o_config_Owner_3) .ret)))
def i_config_Owner : IFn := ⟨28, c_config_Owner, [(4, none)]⟩

-- F 16 rota/frame.Encode: bads 0, calls [35, 36]
abbrev o_frame_Encode_0 : List IOper := [⟨(some 1), .box 29 (.t 0), none⟩,
  ⟨(some 2), .mv (.k (.c (.sl none 0 0 false))), none⟩,
  ⟨(some 3), .mv (.k (.c (.int .i64 0))), none⟩]
abbrev o_frame_Encode_1 : List IOper := [⟨(some 6), .fa 0 (.t 1), none⟩,
  ⟨(some 7), .ld none (.t 6), none⟩,
  ⟨(some 8), .bin .lss (.t 7) (.k (.c (.int .i64 0))), none⟩,
  ⟨(some 9), .mv (.t 8), none⟩,
  ⟨(some 10), .fa 0 (.t 1), some (9, false)⟩,
  ⟨(some 11), .ld none (.t 10), some (9, false)⟩,
  ⟨(some 12), .bin .geq (.t 11) (.k (.c (.int .i64 16))), some (9, false)⟩,
  ⟨(some 13), .pick (.t 9) (.k (.c (.bool true))) (.t 12), none⟩,
  ⟨(some 14), .mv (.t 13), none⟩,
  ⟨(some 15), .fa 1 (.t 1), some (14, false)⟩,
  ⟨(some 16), .fa 0 (.t 15), some (14, false)⟩,
  ⟨(some 17), .ld none (.t 16), some (14, false)⟩,
  ⟨(some 18), .bin .lss (.t 17) (.k (.c (.int .i64 0))), some (14, false)⟩,
  ⟨(some 19), .pick (.t 14) (.k (.c (.bool true))) (.t 18), none⟩,
  ⟨(some 20), .mv (.t 19), none⟩,
  ⟨(some 21), .fa 1 (.t 1), some (20, false)⟩,
  ⟨(some 22), .fa 0 (.t 21), some (20, false)⟩,
  ⟨(some 23), .ld none (.t 22), some (20, false)⟩,
  ⟨(some 24), .bin .gtr (.t 23) (.k (.c (.int .i64 2147483647))), some (20, false)⟩,
  ⟨(some 25), .pick (.t 20) (.k (.c (.bool true))) (.t 24), none⟩]
abbrev o_frame_Encode_2 : List IOper := [⟨(some 2), .mv (.k (.c (.sl none 0 0 false))), none⟩,
  ⟨(some 3), .mv (.k (.c (.int .i64 2))), none⟩]
abbrev o_frame_Encode_3 : List IOper := [⟨(some 34), .fa 3 (.t 1), none⟩,
  ⟨(some 35), .slA 64 1 (.t 34) none none none, none⟩,
  ⟨(some 29), .fa 0 (.t 1), none⟩,
  ⟨(some 30), .ld none (.t 29), none⟩,
  ⟨(some 31), .cv .u8 (.t 30), none⟩,
  ⟨(some 26), .fa 1 (.t 1), none⟩,
  ⟨(some 27), .ld (some 2) (.t 26), none⟩,
  ⟨(some 28), .call (.k (.c (.fn fn_frame_state [] []))) [(.t 27)], none⟩,
  ⟨none, .same (some none) (.t 29) (.t 30), none⟩,
  ⟨(some 32), .bsl 5 1 [(.int .u8 0)] [(0, 1, (.t 31))], none⟩,
  ⟨(some 33), .app 5 1 1 (.t 28) (.t 32), none⟩,
  ⟨(some 36), .app 5 1 1 (.t 33) (.t 35), none⟩,
  ⟨(some 4), .mv (.t 36), none⟩]
abbrev o_frame_Encode_4 : List IOper := [⟨(some 37), .mv (.t 4), none⟩,
  ⟨(some 38), .call (.k (.c (.fn fn_sum_Sum [] []))) [(.t 37)], none⟩,
  ⟨(some 5), .mv (.t 38), none⟩]
abbrev o_frame_Encode_5 : List IOper := [⟨(some 39), .mv (.t 4), none⟩,
  ⟨(some 40), .mv (.t 5), none⟩,
  ⟨(some 41), .cv .u8 (.t 40), none⟩,
  ⟨(some 42), .mv (.t 5), none⟩,
  ⟨(some 43), .bin .shr (.t 42) (.k (.c (.int .u64 8))), none⟩,
  ⟨(some 44), .cv .u8 (.t 43), none⟩,
  ⟨(some 45), .mv (.t 5), none⟩,
  ⟨(some 46), .bin .shr (.t 45) (.k (.c (.int .u64 16))), none⟩,
  ⟨(some 47), .cv .u8 (.t 46), none⟩,
  ⟨(some 48), .mv (.t 5), none⟩,
  ⟨(some 49), .bin .shr (.t 48) (.k (.c (.int .u64 24))), none⟩,
  ⟨(some 50), .cv .u8 (.t 49), none⟩,
  ⟨(some 51), .bsl 5 4 (List.replicate 4 (.int .u8 0)) [(0, 1, (.t 41)), (1, 1, (.t 44)), (2, 1, (.t 47)), (3, 1, (.t 50))], none⟩,
  ⟨(some 52), .app 5 1 1 (.t 39) (.t 51), none⟩,
  ⟨(some 2), .mv (.t 52), none⟩,
  ⟨(some 3), .mv (.k (.c (.int .i64 0))), none⟩]
def c_frame_Encode : IC := (.seq (.ops o_frame_Encode_0) (.seq (.seq (.ops o_frame_Encode_1) (.cond (.t 25) (.seq (.ops o_frame_Encode_2) .ret) .skip)) (.seq (.ops o_frame_Encode_3) (.seq (.ops o_frame_Encode_4) (.seq (.ops o_frame_Encode_5) .ret)))))
def i_frame_Encode : IFn := ⟨53, c_frame_Encode, [(2, none), (3, none)]⟩

-- F 17 (*rota/dual.Pair).Step: bads 0, calls [37, 38, 15, 9]
abbrev o_dual_Pair_Step_0 : List IOper := [⟨(some 7), .box 24 (.t 2), none⟩,
  ⟨(some 8), .box 41 (.t 3), none⟩,
  ⟨(some 9), .box 43 (.t 4), none⟩,
  ⟨(some 10), .mv (.k (.c (.sl none 0 0 false))), none⟩,
  ⟨(some 11), .mv (.k (.c (.sl none 0 0 false))), none⟩,
  ⟨(some 12), .mv (.k (.c (.int .i64 0))), none⟩]
abbrev o_dual_Pair_Step_1 : List IOper := [⟨(some 23), .mv (.t 0), none⟩,
  ⟨(some 24), .call (.k (.c (.fn fn_dual_Pair_none [] []))) [(.t 23)], none⟩]
abbrev o_dual_Pair_Step_2 : List IOper := [⟨(some 10), .mv (.k (.c (.sl none 0 0 false))), none⟩,
  ⟨(some 11), .mv (.k (.c (.sl none 0 0 false))), none⟩,
  ⟨(some 12), .mv (.k (.c (.int .i64 1))), none⟩]
abbrev o_dual_Pair_Step_3 : List IOper := [⟨(some 25), .mv (.t 1), none⟩,
  ⟨(some 26), .bin .lss (.t 25) (.k (.c (.int .i64 0))), none⟩]
abbrev o_dual_Pair_Step_4 : List IOper := [⟨(some 10), .mv (.k (.c (.sl none 0 0 false))), none⟩,
  ⟨(some 11), .mv (.k (.c (.sl none 0 0 false))), none⟩,
  ⟨(some 12), .mv (.k (.c (.int .i64 2))), none⟩]
abbrev o_dual_Pair_Step_5 : List IOper := [⟨(some 13), .new 107 (.agg [(.sl none 0 0 false), (.sl none 0 0 false)]), none⟩]
abbrev o_dual_Pair_Step_6 : List IOper := [⟨(some 27), .mv (.k (.c (.int .i64 0))), none⟩]
abbrev o_dual_Pair_Step_7 : List IOper := [⟨(some 28), .bin .lss (.t 27) (.k (.c (.int .i64 2))), none⟩]
abbrev o_dual_Pair_Step_8 : List IOper := [⟨(some 29), .mv (.t 27), none⟩,
  ⟨(some 14), .mv (.t 29), none⟩]
abbrev o_dual_Pair_Step_9 : List IOper := [⟨(some 31), .mv (.t 0), none⟩,
  ⟨(some 32), .mv (.t 14), none⟩,
  ⟨(some 33), .nilck (.t 31), none⟩,
  ⟨(some 34), .fa 12 (.t 33), none⟩,
  ⟨(some 35), .iaA 2 1 (.t 34) (.t 32), none⟩,
  ⟨(some 36), .ld none (.t 35), none⟩,
  ⟨(some 37), .mv (.t 1), none⟩,
  ⟨(some 38), .mv (.t 14), none⟩,
  ⟨(some 39), .iaA 2 1 (.t 8) (.t 38), none⟩,
  ⟨(some 40), .ld none (.t 39), none⟩,
  ⟨(some 41), .mv (.t 14), none⟩,
  ⟨(some 42), .iaA 2 1 (.t 9) (.t 41), none⟩,
  ⟨(some 43), .ld none (.t 42), none⟩,
  ⟨(some 44), .call (.k (.c (.fn fn_bus_Bus_Carry [] []))) [(.t 36), (.t 37), (.t 40), (.t 43)], none⟩,
  ⟨(some 30), .mv (.t 44), none⟩,
  ⟨(some 45), .ext (.t 30) 0, none⟩,
  ⟨(some 46), .ext (.t 30) 1, none⟩,
  ⟨(some 15), .mv (.t 45), none⟩,
  ⟨(some 16), .mv (.t 46), none⟩]
abbrev o_dual_Pair_Step_10 : List IOper := [⟨(some 47), .mv (.t 16), none⟩,
  ⟨(some 48), .bin .neq (.t 47) (.k (.c (.int .i64 0))), none⟩]
abbrev o_dual_Pair_Step_11 : List IOper := [⟨(some 49), .mv (.t 16), none⟩,
  ⟨(some 10), .mv (.k (.c (.sl none 0 0 false))), none⟩,
  ⟨(some 11), .mv (.k (.c (.sl none 0 0 false))), none⟩,
  ⟨(some 12), .mv (.t 49), none⟩]
abbrev o_dual_Pair_Step_12 : List IOper := [⟨(some 50), .mv (.t 14), none⟩,
  ⟨(some 51), .mv (.t 15), none⟩,
  ⟨(some 52), .iaA 2 1 (.t 13) (.t 50), none⟩,
  ⟨none, .st 1 (.t 52) (.t 51), none⟩]
abbrev o_dual_Pair_Step_13 : List IOper := [⟨(some 53), .bin .add (.t 27) (.k (.c (.int .i64 1))), none⟩,
  ⟨(some 27), .mv (.t 53), none⟩]
def b_dual_Pair_Step_14 : IC := (.seq (.ops o_dual_Pair_Step_7) (.seq (.cond (.t 28) .skip (.exit 0)) (.seq (.block 1 (.seq (.ops o_dual_Pair_Step_8) (.seq (.ops o_dual_Pair_Step_9) (.seq (.seq (.ops o_dual_Pair_Step_10) (.cond (.t 48) (.seq (.ops o_dual_Pair_Step_11) .ret) .skip)) (.ops o_dual_Pair_Step_12))))) (.ops o_dual_Pair_Step_13))))
abbrev o_dual_Pair_Step_15 : List IOper := [⟨(some 54), .mv (.t 0), none⟩,
  ⟨(some 55), .nilck (.t 54), none⟩,
  ⟨(some 56), .fa 0 (.t 55), none⟩,
  ⟨(some 57), .ld (some 12) (.t 56), none⟩,
  ⟨(some 58), .mv (.t 1), none⟩,
  ⟨(some 59), .call (.k (.c (.fn fn_config_Owner [] []))) [(.t 57), (.t 58)], none⟩,
  ⟨(some 17), .mv (.t 59), none⟩]
abbrev o_dual_Pair_Step_16 : List IOper := [⟨(some 18), .mv (.k (.c (.sl none 0 0 false))), none⟩]
abbrev o_dual_Pair_Step_17 : List IOper := [⟨(some 19), .mv (.k (.c (.sl none 0 0 false))), none⟩]
abbrev o_dual_Pair_Step_18 : List IOper := [⟨(some 60), .mv (.t 0), none⟩,
  ⟨(some 61), .nilck (.t 60), none⟩,
  ⟨(some 62), .fa 0 (.t 61), none⟩,
  ⟨(some 63), .fa 0 (.t 62), none⟩,
  ⟨(some 64), .ld none (.t 63), none⟩,
  ⟨(some 65), .mv (.k (.c (.int .i64 0))), none⟩]
abbrev o_dual_Pair_Step_19 : List IOper := [⟨(some 66), .bin .lss (.t 65) (.t 64), none⟩]
abbrev o_dual_Pair_Step_20 : List IOper := [⟨(some 67), .mv (.t 65), none⟩,
  ⟨(some 20), .mv (.t 67), none⟩]
abbrev o_dual_Pair_Step_21 : List IOper := [⟨(some 69), .mv (.t 17), none⟩,
  ⟨(some 70), .ld (some 2) (.t 7), none⟩,
  ⟨(some 71), .iaA 2 1 (.t 13) (.k (.c (.int .i64 0))), none⟩,
  ⟨(some 72), .ld none (.t 71), none⟩,
  ⟨(some 73), .mv (.t 20), none⟩,
  ⟨(some 74), .iaS 1 (.t 72) (.t 73), none⟩,
  ⟨(some 75), .ld none (.t 74), none⟩,
  ⟨(some 76), .iaA 2 1 (.t 13) (.k (.c (.int .i64 1))), none⟩,
  ⟨(some 77), .ld none (.t 76), none⟩,
  ⟨(some 78), .mv (.t 20), none⟩,
  ⟨(some 79), .iaS 1 (.t 77) (.t 78), none⟩,
  ⟨(some 80), .ld none (.t 79), none⟩,
  ⟨(some 81), .call (.k (.c (.fn fn_dual_Choose [] []))) [(.t 69), (.t 70), (.t 75), (.t 80)], none⟩,
  ⟨(some 68), .mv (.t 81), none⟩,
  ⟨(some 82), .ext (.t 68) 0, none⟩,
  ⟨(some 83), .ext (.t 68) 1, none⟩,
  ⟨(some 21), .new 29 (.agg (List.replicate 2 (.int .i64 0) ++ [(.int .u16 0)] ++ List.replicate 64 (.int .u8 0))), none⟩,
  ⟨none, .st 67 (.t 21) (.t 82), none⟩,
  ⟨(some 22), .mv (.t 83), none⟩]
abbrev o_dual_Pair_Step_22 : List IOper := [⟨(some 84), .mv (.t 18), none⟩,
  ⟨(some 85), .ld (some 67) (.t 21), none⟩,
  ⟨(some 86), .bsl 29 1 (List.replicate 2 (.int .i64 0) ++ [(.int .u16 0)] ++ List.replicate 64 (.int .u8 0)) [(0, 67, (.t 85))], none⟩,
  ⟨(some 87), .app 29 67 88 (.t 84) (.t 86), none⟩,
  ⟨(some 88), .mv (.t 19), none⟩,
  ⟨(some 89), .mv (.t 22), none⟩,
  ⟨(some 90), .bsl 3 1 [(.int .i64 0)] [(0, 1, (.t 89))], none⟩,
  ⟨(some 91), .app 3 1 8 (.t 88) (.t 90), none⟩,
  ⟨(some 18), .mv (.t 87), none⟩,
  ⟨(some 19), .mv (.t 91), none⟩]
abbrev o_dual_Pair_Step_23 : List IOper := [⟨(some 92), .mv (.t 20), none⟩,
  ⟨(some 93), .mv (.t 17), none⟩,
  ⟨(some 94), .bin .neq (.t 92) (.t 93), none⟩]
abbrev o_dual_Pair_Step_24 : List IOper := [⟨(some 95), .mv (.t 0), none⟩,
  ⟨(some 96), .mv (.t 17), none⟩,
  ⟨(some 97), .mv (.t 22), none⟩,
  ⟨(some 98), .nilck (.t 95), none⟩,
  ⟨(some 99), .fa 14 (.t 98), none⟩,
  ⟨(some 100), .iaA 16 5 (.t 99) (.t 96), none⟩,
  ⟨(some 101), .iaA 5 1 (.t 100) (.t 97), none⟩,
  ⟨(some 102), .ld none (.t 101), none⟩,
  ⟨(some 103), .bin .add (.t 102) (.k (.c (.int .i64 1))), none⟩,
  ⟨(some 104), .nilck (.t 95), none⟩,
  ⟨(some 105), .fa 14 (.t 104), none⟩,
  ⟨(some 106), .iaA 16 5 (.t 105) (.t 96), none⟩,
  ⟨(some 107), .iaA 5 1 (.t 106) (.t 97), none⟩,
  ⟨none, .st 1 (.t 107) (.t 103), none⟩]
abbrev o_dual_Pair_Step_25 : List IOper := [⟨(some 108), .bin .add (.t 65) (.k (.c (.int .i64 1))), none⟩,
  ⟨(some 65), .mv (.t 108), none⟩]
def b_dual_Pair_Step_26 : IC := (.seq (.ops o_dual_Pair_Step_19) (.seq (.cond (.t 66) .skip (.exit 2)) (.seq (.block 3 (.seq (.ops o_dual_Pair_Step_20) (.seq (.ops o_dual_Pair_Step_21) (.seq (.ops o_dual_Pair_Step_22) (.seq (.ops o_dual_Pair_Step_23) (.cond (.t 94) (.ops o_dual_Pair_Step_24) .skip)))))) (.ops o_dual_Pair_Step_25))))
abbrev o_dual_Pair_Step_27 : List IOper := [⟨(some 109), .mv (.t 18), none⟩,
  ⟨(some 110), .mv (.t 19), none⟩,
  ⟨(some 10), .mv (.t 109), none⟩,
  ⟨(some 11), .mv (.t 110), none⟩,
  ⟨(some 12), .mv (.k (.c (.int .i64 0))), none⟩]
def c_dual_Pair_Step : IC := (.seq (.ops o_dual_Pair_Step_0) (.seq (.seq (.ops o_dual_Pair_Step_1) (.cond (.t 24) (.seq (.ops o_dual_Pair_Step_2) .ret) .skip)) (.seq (.seq (.ops o_dual_Pair_Step_3) (.cond (.t 26) (.seq (.ops o_dual_Pair_Step_4) .ret) .skip)) (.seq (.ops o_dual_Pair_Step_5) (.seq (.seq (.ops o_dual_Pair_Step_6) (.block 0 (.loop b_dual_Pair_Step_14))) (.seq (.ops o_dual_Pair_Step_15) (.seq (.ops o_dual_Pair_Step_16) (.seq (.ops o_dual_Pair_Step_17) (.seq (.seq (.ops o_dual_Pair_Step_18) (.block 2 (.loop b_dual_Pair_Step_26))) (.seq (.ops o_dual_Pair_Step_27) .ret))))))))))
def i_dual_Pair_Step : IFn := ⟨111, c_dual_Pair_Step, [(10, none), (11, none), (12, none)]⟩

-- F 18 rota/rotalaw21.wrong: bads 0, calls [39]
abbrev o_rotalaw21_wrong_0 : List IOper := [⟨(some 2), .box 65 (.t 0), none⟩,
  ⟨(some 4), .mv (.k (.c (.bool false))), none⟩]
abbrev o_rotalaw21_wrong_1 : List IOper := [⟨(some 5), .fa 0 (.t 2), none⟩,
  ⟨(some 6), .ld none (.t 5), none⟩,
  ⟨(some 7), .bin .eql (.t 6) (.k (.c (.int .i64 1))), none⟩]
abbrev o_rotalaw21_wrong_2 : List IOper := [⟨(some 4), .mv (.k (.c (.bool true))), none⟩]
abbrev o_rotalaw21_wrong_3 : List IOper := [⟨(some 8), .fa 0 (.t 2), none⟩,
  ⟨(some 9), .ld none (.t 8), none⟩,
  ⟨(some 10), .bin .eql (.t 9) (.k (.c (.int .i64 2))), none⟩,
  ⟨(some 11), .mv (.t 10), none⟩,
  ⟨(some 19), .mv (.t 1), some (11, true)⟩,
  ⟨(some 20), .b2s (.t 19), some (11, true)⟩,
  ⟨(some 15), .fa 2 (.t 2), some (11, true)⟩,
  ⟨(some 16), .ld none (.t 15), some (11, true)⟩,
  ⟨(some 13), .fa 1 (.t 2), some (11, true)⟩,
  ⟨(some 14), .ld none (.t 13), some (11, true)⟩,
  ⟨(some 12), .mv (.t 1), some (11, true)⟩,
  ⟨(some 17), .call (.k (.c (.fn fn_frame_Corrupt [] []))) [(.t 12), (.t 14), (.t 16)], some (11, true)⟩,
  ⟨none, .same none (.t 19) (.t 20), some (11, true)⟩,
  ⟨(some 18), .b2s (.t 17), some (11, true)⟩,
  ⟨(some 21), .bin .neq (.t 18) (.t 20), some (11, true)⟩,
  ⟨(some 22), .pick (.t 11) (.t 21) (.k (.c (.bool false))), none⟩,
  ⟨(some 4), .mv (.t 22), none⟩]
def c_rotalaw21_wrong : IC := (.seq (.ops o_rotalaw21_wrong_0) (.seq (.seq (.ops o_rotalaw21_wrong_1) (.cond (.t 7) (.seq (.ops o_rotalaw21_wrong_2) .ret) .skip)) (.seq (.ops o_rotalaw21_wrong_3) .ret)))
def i_rotalaw21_wrong : IFn := ⟨23, c_rotalaw21_wrong, [(4, none)]⟩

-- F 19 (*rota/dual.Pair).Count: bads 0, calls [37]
abbrev o_dual_Pair_Count_0 : List IOper := [⟨(some 6), .mv (.k (.c (.int .i64 0))), none⟩]
abbrev o_dual_Pair_Count_1 : List IOper := [⟨(some 7), .mv (.t 0), none⟩,
  ⟨(some 8), .call (.k (.c (.fn fn_dual_Pair_none [] []))) [(.t 7)], none⟩,
  ⟨(some 9), .mv (.t 8), none⟩,
  ⟨(some 10), .mv (.t 1), some (9, false)⟩,
  ⟨(some 11), .bin .lss (.t 10) (.k (.c (.int .i64 0))), some (9, false)⟩,
  ⟨(some 12), .pick (.t 9) (.k (.c (.bool true))) (.t 11), none⟩,
  ⟨(some 13), .mv (.t 12), none⟩,
  ⟨(some 14), .mv (.t 1), some (13, false)⟩,
  ⟨(some 15), .mv (.t 0), some (13, false)⟩,
  ⟨(some 16), .nilck (.t 15), some (13, false)⟩,
  ⟨(some 17), .fa 0 (.t 16), some (13, false)⟩,
  ⟨(some 18), .fa 0 (.t 17), some (13, false)⟩,
  ⟨(some 19), .ld none (.t 18), some (13, false)⟩,
  ⟨(some 20), .bin .geq (.t 14) (.t 19), some (13, false)⟩,
  ⟨(some 21), .pick (.t 13) (.k (.c (.bool true))) (.t 20), none⟩,
  ⟨(some 22), .mv (.t 21), none⟩,
  ⟨(some 23), .mv (.t 2), some (22, false)⟩,
  ⟨(some 24), .bin .lss (.t 23) (.k (.c (.int .i64 0))), some (22, false)⟩,
  ⟨(some 25), .pick (.t 22) (.k (.c (.bool true))) (.t 24), none⟩,
  ⟨(some 26), .mv (.t 25), none⟩,
  ⟨(some 27), .mv (.t 2), some (26, false)⟩,
  ⟨(some 28), .bin .geq (.t 27) (.k (.c (.int .i64 5))), some (26, false)⟩,
  ⟨(some 29), .pick (.t 26) (.k (.c (.bool true))) (.t 28), none⟩]
abbrev o_dual_Pair_Count_2 : List IOper := [⟨(some 6), .mv (.k (.c (.int .i64 0))), none⟩]
abbrev o_dual_Pair_Count_3 : List IOper := [⟨(some 30), .mv (.t 0), none⟩,
  ⟨(some 31), .mv (.t 1), none⟩,
  ⟨(some 32), .mv (.t 2), none⟩,
  ⟨(some 33), .nilck (.t 30), none⟩,
  ⟨(some 34), .fa 14 (.t 33), none⟩,
  ⟨(some 35), .iaA 16 5 (.t 34) (.t 31), none⟩,
  ⟨(some 36), .iaA 5 1 (.t 35) (.t 32), none⟩,
  ⟨(some 37), .ld none (.t 36), none⟩,
  ⟨(some 6), .mv (.t 37), none⟩]
def c_dual_Pair_Count : IC := (.seq (.ops o_dual_Pair_Count_0) (.seq (.seq (.ops o_dual_Pair_Count_1) (.cond (.t 29) (.seq (.ops o_dual_Pair_Count_2) .ret) .skip)) (.seq (.ops o_dual_Pair_Count_3) .ret)))
def i_dual_Pair_Count : IFn := ⟨38, c_dual_Pair_Count, [(6, none)]⟩

-- F 20 (*rota/dual.Pair).Losses: bads 0, calls [37]
abbrev o_dual_Pair_Losses_0 : List IOper := [⟨(some 2), .mv (.k (.c (.int .i64 0))), none⟩,
  ⟨(some 3), .mv (.k (.c (.int .i64 0))), none⟩]
abbrev o_dual_Pair_Losses_1 : List IOper := [⟨(some 6), .mv (.t 0), none⟩,
  ⟨(some 7), .call (.k (.c (.fn fn_dual_Pair_none [] []))) [(.t 6)], none⟩]
abbrev o_dual_Pair_Losses_2 : List IOper := [⟨(some 2), .mv (.k (.c (.int .i64 0))), none⟩,
  ⟨(some 3), .mv (.k (.c (.int .i64 0))), none⟩]
abbrev o_dual_Pair_Losses_3 : List IOper := [⟨(some 8), .mv (.t 0), none⟩,
  ⟨(some 9), .nilck (.t 8), none⟩,
  ⟨(some 10), .fa 14 (.t 9), none⟩,
  ⟨(some 11), .ld (some 80) (.t 10), none⟩,
  ⟨(some 12), .mv (.k (.c (.int .i64 0))), none⟩]
abbrev o_dual_Pair_Losses_4 : List IOper := [⟨(some 13), .bin .lss (.t 12) (.k (.c (.int .i64 16))), none⟩]
abbrev o_dual_Pair_Losses_5 : List IOper := [⟨(some 14), .ix 16 5 (some 5) (.t 11) (.t 12), none⟩,
  ⟨(some 5), .new 77 (.agg (List.replicate 5 (.int .i64 0))), none⟩,
  ⟨none, .st 5 (.t 5) (.t 14), none⟩]
abbrev o_dual_Pair_Losses_6 : List IOper := [⟨(some 15), .mv (.t 2), none⟩,
  ⟨(some 16), .iaA 5 1 (.t 5) (.k (.c (.int .i64 2))), none⟩,
  ⟨(some 17), .ld none (.t 16), none⟩,
  ⟨(some 18), .bin .add (.t 15) (.t 17), none⟩,
  ⟨(some 2), .mv (.t 18), none⟩]
abbrev o_dual_Pair_Losses_7 : List IOper := [⟨(some 19), .mv (.t 3), none⟩,
  ⟨(some 20), .iaA 5 1 (.t 5) (.k (.c (.int .i64 1))), none⟩,
  ⟨(some 21), .ld none (.t 20), none⟩,
  ⟨(some 22), .bin .add (.t 19) (.t 21), none⟩,
  ⟨(some 3), .mv (.t 22), none⟩]
abbrev o_dual_Pair_Losses_8 : List IOper := [⟨(some 23), .bin .add (.t 12) (.k (.c (.int .i64 1))), none⟩,
  ⟨(some 12), .mv (.t 23), none⟩]
def b_dual_Pair_Losses_9 : IC := (.seq (.ops o_dual_Pair_Losses_4) (.seq (.cond (.t 13) .skip (.exit 0)) (.seq (.block 1 (.seq (.ops o_dual_Pair_Losses_5) (.seq (.ops o_dual_Pair_Losses_6) (.ops o_dual_Pair_Losses_7)))) (.ops o_dual_Pair_Losses_8))))
abbrev o_dual_Pair_Losses_10 : List IOper := [⟨(some 24), .mv (.t 2), none⟩,
  ⟨(some 25), .mv (.t 3), none⟩,
  ⟨(some 2), .mv (.t 24), none⟩,
  ⟨(some 3), .mv (.t 25), none⟩]
def c_dual_Pair_Losses : IC := (.seq (.ops o_dual_Pair_Losses_0) (.seq (.seq (.ops o_dual_Pair_Losses_1) (.cond (.t 7) (.seq (.ops o_dual_Pair_Losses_2) .ret) .skip)) (.seq (.seq (.ops o_dual_Pair_Losses_3) (.block 0 (.loop b_dual_Pair_Losses_9))) (.seq (.ops o_dual_Pair_Losses_10) .ret))))
def i_dual_Pair_Losses : IFn := ⟨26, c_dual_Pair_Losses, [(2, none), (3, none)]⟩

-- F 21 rota/rotaref02.Twin: bads 0, calls []
abbrev o_rotaref02_Twin_0 : List IOper := [⟨(some 1), .box 39 (.t 0), none⟩,
  ⟨(some 2), .new 39 (.agg ([(.int .i64 0)] ++ [(.sl none 0 0 false)] ++ List.replicate 6 (.int .i64 0) ++ List.replicate 4 (.sl none 0 0 false))), none⟩]
abbrev o_rotaref02_Twin_1 : List IOper := [⟨(some 8), .ld (some 12) (.t 1), none⟩,
  ⟨(some 3), .new 39 (.agg ([(.int .i64 0)] ++ [(.sl none 0 0 false)] ++ List.replicate 6 (.int .i64 0) ++ List.replicate 4 (.sl none 0 0 false))), none⟩,
  ⟨none, .st 12 (.t 3) (.t 8), none⟩]
abbrev o_rotaref02_Twin_2 : List IOper := [⟨(some 9), .bsl 3 0 [] [], none⟩,
  ⟨(some 10), .fa 1 (.t 1), none⟩,
  ⟨(some 11), .ld none (.t 10), none⟩,
  ⟨(some 12), .app 3 1 8 (.t 9) (.t 11), none⟩,
  ⟨(some 13), .fa 1 (.t 3), none⟩,
  ⟨none, .st 1 (.t 13) (.t 12), none⟩]
abbrev o_rotaref02_Twin_3 : List IOper := [⟨(some 14), .bsl 154 0 [] [], none⟩,
  ⟨(some 15), .fa 8 (.t 1), none⟩,
  ⟨(some 16), .ld none (.t 15), none⟩,
  ⟨(some 17), .app 154 3 24 (.t 14) (.t 16), none⟩,
  ⟨(some 18), .fa 8 (.t 3), none⟩,
  ⟨none, .st 1 (.t 18) (.t 17), none⟩]
abbrev o_rotaref02_Twin_4 : List IOper := [⟨(some 19), .bsl 158 0 [] [], none⟩,
  ⟨(some 20), .fa 10 (.t 1), none⟩,
  ⟨(some 21), .ld none (.t 20), none⟩,
  ⟨(some 22), .app 158 6 48 (.t 19) (.t 21), none⟩,
  ⟨(some 23), .fa 10 (.t 3), none⟩,
  ⟨none, .st 1 (.t 23) (.t 22), none⟩]
abbrev o_rotaref02_Twin_5 : List IOper := [⟨(some 24), .fa 9 (.t 3), none⟩,
  ⟨none, .st 1 (.t 24) (.k (.c (.sl none 0 0 false))), none⟩]
abbrev o_rotaref02_Twin_6 : List IOper := [⟨(some 4), .mv (.k (.c (.int .i64 0))), none⟩]
abbrev o_rotaref02_Twin_7 : List IOper := [⟨(some 25), .mv (.t 4), none⟩,
  ⟨(some 26), .fa 9 (.t 1), none⟩,
  ⟨(some 27), .ld none (.t 26), none⟩,
  ⟨(some 28), .len false (.t 27), none⟩,
  ⟨(some 29), .bin .lss (.t 25) (.t 28), none⟩]
abbrev o_rotaref02_Twin_8 : List IOper := [⟨(some 32), .bsl 3 0 [] [], none⟩,
  ⟨(some 33), .fa 9 (.t 1), none⟩,
  ⟨(some 34), .ld none (.t 33), none⟩,
  ⟨(some 35), .mv (.t 4), none⟩,
  ⟨(some 36), .iaS 1 (.t 34) (.t 35), none⟩,
  ⟨(some 37), .ld none (.t 36), none⟩,
  ⟨(some 38), .app 3 1 8 (.t 32) (.t 37), none⟩,
  ⟨(some 5), .mv (.t 38), none⟩]
abbrev o_rotaref02_Twin_9 : List IOper := [⟨(some 39), .fa 9 (.t 3), none⟩,
  ⟨(some 40), .ld none (.t 39), none⟩,
  ⟨(some 41), .mv (.t 5), none⟩,
  ⟨(some 42), .bsl 33 1 [(.sl none 0 0 false)] [(0, 1, (.t 41))], none⟩,
  ⟨(some 43), .app 33 1 24 (.t 40) (.t 42), none⟩,
  ⟨(some 44), .fa 9 (.t 3), none⟩,
  ⟨none, .st 1 (.t 44) (.t 43), none⟩]
abbrev o_rotaref02_Twin_10 : List IOper := [⟨(some 30), .mv (.t 4), none⟩,
  ⟨(some 31), .bin .add (.t 30) (.k (.c (.int .i64 1))), none⟩,
  ⟨(some 4), .mv (.t 31), none⟩]
def b_rotaref02_Twin_11 : IC := (.seq (.seq (.ops o_rotaref02_Twin_7) (.cond (.t 29) .skip (.exit 0))) (.seq (.block 1 (.seq (.ops o_rotaref02_Twin_8) (.ops o_rotaref02_Twin_9))) (.ops o_rotaref02_Twin_10)))
abbrev o_rotaref02_Twin_12 : List IOper := [⟨(some 45), .fa 11 (.t 3), none⟩,
  ⟨none, .st 1 (.t 45) (.k (.c (.sl none 0 0 false))), none⟩]
abbrev o_rotaref02_Twin_13 : List IOper := [⟨(some 6), .mv (.k (.c (.int .i64 0))), none⟩]
abbrev o_rotaref02_Twin_14 : List IOper := [⟨(some 46), .mv (.t 6), none⟩,
  ⟨(some 47), .fa 11 (.t 1), none⟩,
  ⟨(some 48), .ld none (.t 47), none⟩,
  ⟨(some 49), .len false (.t 48), none⟩,
  ⟨(some 50), .bin .lss (.t 46) (.t 49), none⟩]
abbrev o_rotaref02_Twin_15 : List IOper := [⟨(some 53), .fa 11 (.t 1), none⟩,
  ⟨(some 54), .ld none (.t 53), none⟩,
  ⟨(some 55), .mv (.t 6), none⟩,
  ⟨(some 56), .iaS 3 (.t 54) (.t 55), none⟩,
  ⟨(some 57), .ld (some 3) (.t 56), none⟩,
  ⟨(some 7), .new 100 (.agg [(.int .i64 0), (.sl none 0 0 false), (.int .i64 0)]), none⟩,
  ⟨none, .st 3 (.t 7) (.t 57), none⟩]
abbrev o_rotaref02_Twin_16 : List IOper := [⟨(some 58), .bsl 3 0 [] [], none⟩,
  ⟨(some 59), .fa 11 (.t 1), none⟩,
  ⟨(some 60), .ld none (.t 59), none⟩,
  ⟨(some 61), .mv (.t 6), none⟩,
  ⟨(some 62), .iaS 3 (.t 60) (.t 61), none⟩,
  ⟨(some 63), .fa 1 (.t 62), none⟩,
  ⟨(some 64), .ld none (.t 63), none⟩,
  ⟨(some 65), .app 3 1 8 (.t 58) (.t 64), none⟩,
  ⟨(some 66), .fa 1 (.t 7), none⟩,
  ⟨none, .st 1 (.t 66) (.t 65), none⟩]
abbrev o_rotaref02_Twin_17 : List IOper := [⟨(some 67), .fa 11 (.t 3), none⟩,
  ⟨(some 68), .ld none (.t 67), none⟩,
  ⟨(some 69), .ld (some 3) (.t 7), none⟩,
  ⟨(some 70), .bsl 100 1 [(.int .i64 0), (.sl none 0 0 false), (.int .i64 0)] [(0, 3, (.t 69))], none⟩,
  ⟨(some 71), .app 100 3 40 (.t 68) (.t 70), none⟩,
  ⟨(some 72), .fa 11 (.t 3), none⟩,
  ⟨none, .st 1 (.t 72) (.t 71), none⟩]
abbrev o_rotaref02_Twin_18 : List IOper := [⟨(some 51), .mv (.t 6), none⟩,
  ⟨(some 52), .bin .add (.t 51) (.k (.c (.int .i64 1))), none⟩,
  ⟨(some 6), .mv (.t 52), none⟩]
def b_rotaref02_Twin_19 : IC := (.seq (.seq (.ops o_rotaref02_Twin_14) (.cond (.t 50) .skip (.exit 2))) (.seq (.block 3 (.seq (.ops o_rotaref02_Twin_15) (.seq (.ops o_rotaref02_Twin_16) (.ops o_rotaref02_Twin_17)))) (.ops o_rotaref02_Twin_18)))
abbrev o_rotaref02_Twin_20 : List IOper := [⟨(some 73), .ld (some 12) (.t 3), none⟩,
  ⟨none, .st 12 (.t 2) (.t 73), none⟩]
def c_rotaref02_Twin : IC := (.seq (.ops o_rotaref02_Twin_0) (.seq (.ops o_rotaref02_Twin_1) (.seq (.ops o_rotaref02_Twin_2) (.seq (.ops o_rotaref02_Twin_3) (.seq (.ops o_rotaref02_Twin_4) (.seq (.ops o_rotaref02_Twin_5) (.seq (.seq (.ops o_rotaref02_Twin_6) (.block 0 (.loop b_rotaref02_Twin_11))) (.seq (.ops o_rotaref02_Twin_12) (.seq (.seq (.ops o_rotaref02_Twin_13) (.block 2 (.loop b_rotaref02_Twin_19))) (.seq (.ops o_rotaref02_Twin_20) .ret))))))))))
def i_rotaref02_Twin : IFn := ⟨74, c_rotaref02_Twin, [(2, (some (some 12)))]⟩

-- F 22 rota/rotaref21.New: bads 0, calls [40, 40]
abbrev o_rotaref21_New_0 : List IOper := [⟨(some 1), .box 39 (.t 0), none⟩,
  ⟨(some 2), .new 80 (.agg ([(.int .i64 0)] ++ [(.sl none 0 0 false)] ++ List.replicate 6 (.int .i64 0) ++ List.replicate 5 (.sl none 0 0 false) ++ List.replicate 2 (.int .u64 0) ++ [(.sl none 0 0 false)] ++ List.replicate 2 (.int .u64 0) ++ List.replicate 80 (.int .i64 0))), none⟩,
  ⟨(some 3), .mv (.k (.c (.int .i64 0))), none⟩]
abbrev o_rotaref21_New_1 : List IOper := [⟨(some 9), .ld (some 12) (.t 1), none⟩,
  ⟨(some 10), .call (.k (.c (.fn fn_rotaref07_New [] []))) [(.t 9)], none⟩,
  ⟨(some 8), .mv (.t 10), none⟩,
  ⟨(some 11), .ext (.t 8) 0, none⟩,
  ⟨(some 12), .ext (.t 8) 1, none⟩,
  ⟨(some 4), .new 75 (.agg [(.sl none 0 0 false), (.int .u64 0), (.int .u64 0)]), none⟩,
  ⟨none, .st 3 (.t 4) (.t 11), none⟩,
  ⟨(some 5), .mv (.t 12), none⟩]
abbrev o_rotaref21_New_2 : List IOper := [⟨(some 14), .ld (some 12) (.t 1), none⟩,
  ⟨(some 15), .call (.k (.c (.fn fn_rotaref07_New [] []))) [(.t 14)], none⟩,
  ⟨(some 13), .mv (.t 15), none⟩,
  ⟨(some 16), .ext (.t 13) 0, none⟩,
  ⟨(some 17), .ext (.t 13) 1, none⟩,
  ⟨(some 6), .new 75 (.agg [(.sl none 0 0 false), (.int .u64 0), (.int .u64 0)]), none⟩,
  ⟨none, .st 3 (.t 6) (.t 16), none⟩,
  ⟨(some 7), .mv (.t 17), none⟩]
abbrev o_rotaref21_New_3 : List IOper := [⟨(some 18), .mv (.t 5), none⟩,
  ⟨(some 19), .bin .neq (.t 18) (.k (.c (.int .i64 0))), none⟩]
abbrev o_rotaref21_New_4 : List IOper := [⟨(some 20), .build ([(.int .i64 0)] ++ [(.sl none 0 0 false)] ++ List.replicate 6 (.int .i64 0) ++ List.replicate 5 (.sl none 0 0 false) ++ List.replicate 2 (.int .u64 0) ++ [(.sl none 0 0 false)] ++ List.replicate 2 (.int .u64 0) ++ List.replicate 80 (.int .i64 0)) [], none⟩,
  ⟨(some 21), .mv (.t 5), none⟩,
  ⟨none, .st 98 (.t 2) (.t 20), none⟩,
  ⟨(some 3), .mv (.t 21), none⟩]
abbrev o_rotaref21_New_5 : List IOper := [⟨(some 22), .ld (some 12) (.t 1), none⟩,
  ⟨(some 23), .ld (some 3) (.t 4), none⟩,
  ⟨(some 24), .ld (some 3) (.t 6), none⟩,
  ⟨(some 25), .build [(.sl none 0 0 false), (.int .u64 0), (.int .u64 0), (.sl none 0 0 false), (.int .u64 0), (.int .u64 0)] [(0, 3, (.t 23)), (3, 3, (.t 24))], none⟩,
  ⟨(some 26), .build ([(.int .i64 0)] ++ [(.sl none 0 0 false)] ++ List.replicate 6 (.int .i64 0) ++ List.replicate 5 (.sl none 0 0 false) ++ List.replicate 2 (.int .u64 0) ++ [(.sl none 0 0 false)] ++ List.replicate 2 (.int .u64 0) ++ List.replicate 80 (.int .i64 0)) [(0, 12, (.t 22)), (12, 6, (.t 25))], none⟩,
  ⟨none, .st 98 (.t 2) (.t 26), none⟩,
  ⟨(some 3), .mv (.k (.c (.int .i64 0))), none⟩]
def c_rotaref21_New : IC := (.seq (.ops o_rotaref21_New_0) (.seq (.ops o_rotaref21_New_1) (.seq (.ops o_rotaref21_New_2) (.seq (.seq (.ops o_rotaref21_New_3) (.cond (.t 19) (.seq (.ops o_rotaref21_New_4) .ret) .skip)) (.seq (.ops o_rotaref21_New_5) .ret)))))
def i_rotaref21_New : IFn := ⟨27, c_rotaref21_New, [(2, (some (some 98))), (3, none)]⟩

-- F 23 (*rota/rotaref21.Pair).Step: bads 0, calls [41, 41, 10]
abbrev o_rotaref21_Pair_Step_0 : List IOper := [⟨(some 7), .box 24 (.t 2), none⟩,
  ⟨(some 8), .box 41 (.t 3), none⟩,
  ⟨(some 9), .box 43 (.t 4), none⟩,
  ⟨(some 10), .mv (.k (.c (.sl none 0 0 false))), none⟩,
  ⟨(some 11), .mv (.k (.c (.sl none 0 0 false))), none⟩,
  ⟨(some 12), .mv (.k (.c (.int .i64 0))), none⟩]
abbrev o_rotaref21_Pair_Step_1 : List IOper := [⟨(some 25), .mv (.t 1), none⟩,
  ⟨(some 26), .bin .lss (.t 25) (.k (.c (.int .i64 0))), none⟩]
abbrev o_rotaref21_Pair_Step_2 : List IOper := [⟨(some 10), .mv (.k (.c (.sl none 0 0 false))), none⟩,
  ⟨(some 11), .mv (.k (.c (.sl none 0 0 false))), none⟩,
  ⟨(some 12), .mv (.k (.c (.int .i64 2))), none⟩]
abbrev o_rotaref21_Pair_Step_3 : List IOper := [⟨(some 28), .mv (.t 0), none⟩,
  ⟨(some 29), .nilck (.t 28), none⟩,
  ⟨(some 30), .fa 12 (.t 29), none⟩,
  ⟨(some 31), .iaA 2 3 (.t 30) (.k (.c (.int .i64 0))), none⟩,
  ⟨(some 32), .mv (.t 1), none⟩,
  ⟨(some 33), .iaA 2 1 (.t 8) (.k (.c (.int .i64 0))), none⟩,
  ⟨(some 34), .ld none (.t 33), none⟩,
  ⟨(some 35), .iaA 2 1 (.t 9) (.k (.c (.int .i64 0))), none⟩,
  ⟨(some 36), .ld none (.t 35), none⟩,
  ⟨(some 37), .call (.k (.c (.fn fn_rotaref07_Bus_Carry [] []))) [(.t 31), (.t 32), (.t 34), (.t 36)], none⟩,
  ⟨(some 27), .mv (.t 37), none⟩,
  ⟨(some 38), .ext (.t 27) 0, none⟩,
  ⟨(some 39), .ext (.t 27) 1, none⟩,
  ⟨(some 40), .ext (.t 27) 2, none⟩,
  ⟨(some 13), .mv (.t 38), none⟩,
  ⟨(some 14), .mv (.t 39), none⟩,
  ⟨(some 15), .mv (.t 40), none⟩]
abbrev o_rotaref21_Pair_Step_4 : List IOper := [⟨(some 42), .mv (.t 0), none⟩,
  ⟨(some 43), .nilck (.t 42), none⟩,
  ⟨(some 44), .fa 12 (.t 43), none⟩,
  ⟨(some 45), .iaA 2 3 (.t 44) (.k (.c (.int .i64 1))), none⟩,
  ⟨(some 46), .mv (.t 1), none⟩,
  ⟨(some 47), .iaA 2 1 (.t 8) (.k (.c (.int .i64 1))), none⟩,
  ⟨(some 48), .ld none (.t 47), none⟩,
  ⟨(some 49), .iaA 2 1 (.t 9) (.k (.c (.int .i64 1))), none⟩,
  ⟨(some 50), .ld none (.t 49), none⟩,
  ⟨(some 51), .call (.k (.c (.fn fn_rotaref07_Bus_Carry [] []))) [(.t 45), (.t 46), (.t 48), (.t 50)], none⟩,
  ⟨(some 41), .mv (.t 51), none⟩,
  ⟨(some 52), .ext (.t 41) 0, none⟩,
  ⟨(some 53), .ext (.t 41) 1, none⟩,
  ⟨(some 54), .ext (.t 41) 2, none⟩,
  ⟨(some 16), .mv (.t 52), none⟩,
  ⟨(some 17), .mv (.t 53), none⟩,
  ⟨(some 18), .mv (.t 54), none⟩]
abbrev o_rotaref21_Pair_Step_5 : List IOper := [⟨(some 55), .mv (.t 0), none⟩,
  ⟨(some 56), .nilck (.t 55), none⟩,
  ⟨(some 57), .fa 0 (.t 56), none⟩,
  ⟨(some 58), .fa 1 (.t 57), none⟩,
  ⟨(some 59), .ld none (.t 58), none⟩,
  ⟨(some 60), .mv (.t 1), none⟩,
  ⟨(some 61), .mv (.t 0), none⟩,
  ⟨(some 62), .nilck (.t 61), none⟩,
  ⟨(some 63), .fa 0 (.t 62), none⟩,
  ⟨(some 64), .fa 0 (.t 63), none⟩,
  ⟨(some 65), .ld none (.t 64), none⟩,
  ⟨(some 66), .bin .rem (.t 60) (.t 65), none⟩,
  ⟨(some 67), .iaS 1 (.t 59) (.t 66), none⟩,
  ⟨(some 68), .ld none (.t 67), none⟩,
  ⟨(some 19), .mv (.t 68), none⟩]
abbrev o_rotaref21_Pair_Step_6 : List IOper := [⟨(some 20), .mv (.k (.c (.sl none 0 0 false))), none⟩]
abbrev o_rotaref21_Pair_Step_7 : List IOper := [⟨(some 21), .mv (.k (.c (.sl none 0 0 false))), none⟩]
abbrev o_rotaref21_Pair_Step_8 : List IOper := [⟨(some 22), .mv (.k (.c (.int .i64 0))), none⟩]
abbrev o_rotaref21_Pair_Step_9 : List IOper := [⟨(some 69), .mv (.t 22), none⟩,
  ⟨(some 70), .mv (.t 0), none⟩,
  ⟨(some 71), .nilck (.t 70), none⟩,
  ⟨(some 72), .fa 0 (.t 71), none⟩,
  ⟨(some 73), .fa 0 (.t 72), none⟩,
  ⟨(some 74), .ld none (.t 73), none⟩,
  ⟨(some 75), .bin .lss (.t 69) (.t 74), none⟩]
abbrev o_rotaref21_Pair_Step_10 : List IOper := [⟨(some 79), .mv (.t 19), none⟩,
  ⟨(some 80), .ld (some 2) (.t 7), none⟩,
  ⟨(some 81), .mv (.t 13), none⟩,
  ⟨(some 82), .mv (.t 22), none⟩,
  ⟨(some 83), .iaS 1 (.t 81) (.t 82), none⟩,
  ⟨(some 84), .ld none (.t 83), none⟩,
  ⟨(some 85), .mv (.t 16), none⟩,
  ⟨(some 86), .mv (.t 22), none⟩,
  ⟨(some 87), .iaS 1 (.t 85) (.t 86), none⟩,
  ⟨(some 88), .ld none (.t 87), none⟩,
  ⟨(some 89), .call (.k (.c (.fn fn_rotaref21_Choose [] []))) [(.t 79), (.t 80), (.t 84), (.t 88)], none⟩,
  ⟨(some 78), .mv (.t 89), none⟩,
  ⟨(some 90), .ext (.t 78) 0, none⟩,
  ⟨(some 91), .ext (.t 78) 1, none⟩,
  ⟨(some 23), .new 29 (.agg (List.replicate 2 (.int .i64 0) ++ [(.int .u16 0)] ++ List.replicate 64 (.int .u8 0))), none⟩,
  ⟨none, .st 67 (.t 23) (.t 90), none⟩,
  ⟨(some 24), .mv (.t 91), none⟩]
abbrev o_rotaref21_Pair_Step_11 : List IOper := [⟨(some 92), .mv (.t 20), none⟩,
  ⟨(some 93), .ld (some 67) (.t 23), none⟩,
  ⟨(some 94), .bsl 29 1 (List.replicate 2 (.int .i64 0) ++ [(.int .u16 0)] ++ List.replicate 64 (.int .u8 0)) [(0, 67, (.t 93))], none⟩,
  ⟨(some 95), .app 29 67 88 (.t 92) (.t 94), none⟩,
  ⟨(some 20), .mv (.t 95), none⟩]
abbrev o_rotaref21_Pair_Step_12 : List IOper := [⟨(some 96), .mv (.t 21), none⟩,
  ⟨(some 97), .mv (.t 24), none⟩,
  ⟨(some 98), .bsl 3 1 [(.int .i64 0)] [(0, 1, (.t 97))], none⟩,
  ⟨(some 99), .app 3 1 8 (.t 96) (.t 98), none⟩,
  ⟨(some 21), .mv (.t 99), none⟩]
abbrev o_rotaref21_Pair_Step_13 : List IOper := [⟨(some 100), .mv (.t 22), none⟩,
  ⟨(some 101), .mv (.t 19), none⟩,
  ⟨(some 102), .bin .neq (.t 100) (.t 101), none⟩]
abbrev o_rotaref21_Pair_Step_14 : List IOper := [⟨(some 103), .mv (.t 0), none⟩,
  ⟨(some 104), .mv (.t 19), none⟩,
  ⟨(some 105), .mv (.t 24), none⟩,
  ⟨(some 106), .nilck (.t 103), none⟩,
  ⟨(some 107), .fa 18 (.t 106), none⟩,
  ⟨(some 108), .iaA 16 5 (.t 107) (.t 104), none⟩,
  ⟨(some 109), .iaA 5 1 (.t 108) (.t 105), none⟩,
  ⟨(some 110), .ld none (.t 109), none⟩,
  ⟨(some 111), .bin .add (.t 110) (.k (.c (.int .i64 1))), none⟩,
  ⟨(some 112), .nilck (.t 103), none⟩,
  ⟨(some 113), .fa 18 (.t 112), none⟩,
  ⟨(some 114), .iaA 16 5 (.t 113) (.t 104), none⟩,
  ⟨(some 115), .iaA 5 1 (.t 114) (.t 105), none⟩,
  ⟨none, .st 1 (.t 115) (.t 111), none⟩]
abbrev o_rotaref21_Pair_Step_15 : List IOper := [⟨(some 76), .mv (.t 22), none⟩,
  ⟨(some 77), .bin .add (.t 76) (.k (.c (.int .i64 1))), none⟩,
  ⟨(some 22), .mv (.t 77), none⟩]
def b_rotaref21_Pair_Step_16 : IC := (.seq (.seq (.ops o_rotaref21_Pair_Step_9) (.cond (.t 75) .skip (.exit 0))) (.seq (.block 1 (.seq (.ops o_rotaref21_Pair_Step_10) (.seq (.ops o_rotaref21_Pair_Step_11) (.seq (.ops o_rotaref21_Pair_Step_12) (.seq (.ops o_rotaref21_Pair_Step_13) (.cond (.t 102) (.ops o_rotaref21_Pair_Step_14) .skip)))))) (.ops o_rotaref21_Pair_Step_15)))
abbrev o_rotaref21_Pair_Step_17 : List IOper := [⟨(some 116), .mv (.t 20), none⟩,
  ⟨(some 117), .mv (.t 21), none⟩,
  ⟨(some 10), .mv (.t 116), none⟩,
  ⟨(some 11), .mv (.t 117), none⟩,
  ⟨(some 12), .mv (.k (.c (.int .i64 0))), none⟩]
def c_rotaref21_Pair_Step : IC := (.seq (.ops o_rotaref21_Pair_Step_0) (.seq (.seq (.ops o_rotaref21_Pair_Step_1) (.cond (.t 26) (.seq (.ops o_rotaref21_Pair_Step_2) .ret) .skip)) (.seq (.ops o_rotaref21_Pair_Step_3) (.seq (.ops o_rotaref21_Pair_Step_4) (.seq (.ops o_rotaref21_Pair_Step_5) (.seq (.ops o_rotaref21_Pair_Step_6) (.seq (.ops o_rotaref21_Pair_Step_7) (.seq (.seq (.ops o_rotaref21_Pair_Step_8) (.block 0 (.loop b_rotaref21_Pair_Step_16))) (.seq (.ops o_rotaref21_Pair_Step_17) .ret)))))))))
def i_rotaref21_Pair_Step : IFn := ⟨118, c_rotaref21_Pair_Step, [(10, none), (11, none), (12, none)]⟩

-- F 24 rota/rotaref21.Frames: bads 0, calls []
abbrev o_rotaref21_Frames_0 : List IOper := [⟨(some 4), .mv (.k (.c (.bool false))), none⟩]
abbrev o_rotaref21_Frames_1 : List IOper := [⟨(some 6), .mv (.t 0), none⟩,
  ⟨(some 7), .len false (.t 6), none⟩,
  ⟨(some 8), .mv (.t 1), none⟩,
  ⟨(some 9), .len false (.t 8), none⟩,
  ⟨(some 10), .bin .neq (.t 7) (.t 9), none⟩]
abbrev o_rotaref21_Frames_2 : List IOper := [⟨(some 4), .mv (.k (.c (.bool false))), none⟩]
abbrev o_rotaref21_Frames_3 : List IOper := [⟨(some 5), .mv (.k (.c (.int .i64 0))), none⟩]
abbrev o_rotaref21_Frames_4 : List IOper := [⟨(some 11), .mv (.t 5), none⟩,
  ⟨(some 12), .mv (.t 0), none⟩,
  ⟨(some 13), .len false (.t 12), none⟩,
  ⟨(some 14), .bin .lss (.t 11) (.t 13), none⟩]
abbrev o_rotaref21_Frames_5 : List IOper := [⟨(some 17), .mv (.t 0), none⟩,
  ⟨(some 18), .mv (.t 5), none⟩,
  ⟨(some 19), .iaS 67 (.t 17) (.t 18), none⟩,
  ⟨(some 20), .ld (some 67) (.t 19), none⟩,
  ⟨(some 21), .mv (.t 1), none⟩,
  ⟨(some 22), .mv (.t 5), none⟩,
  ⟨(some 23), .iaS 67 (.t 21) (.t 22), none⟩,
  ⟨(some 24), .ld (some 67) (.t 23), none⟩,
  ⟨(some 25), .eqagg [.int, .int, .int, .int, .int, .int, .int, .int, .int, .int, .int, .int, .int, .int, .int, .int, .int, .int, .int, .int, .int, .int, .int, .int, .int, .int, .int, .int, .int, .int, .int, .int, .int, .int, .int, .int, .int, .int, .int, .int, .int, .int, .int, .int, .int, .int, .int, .int, .int, .int, .int, .int, .int, .int, .int, .int, .int, .int, .int, .int, .int, .int, .int, .int, .int, .int, .int] true (.t 20) (.t 24), none⟩]
abbrev o_rotaref21_Frames_6 : List IOper := [⟨(some 4), .mv (.k (.c (.bool false))), none⟩]
abbrev o_rotaref21_Frames_7 : List IOper := [⟨(some 15), .mv (.t 5), none⟩,
  ⟨(some 16), .bin .add (.t 15) (.k (.c (.int .i64 1))), none⟩,
  ⟨(some 5), .mv (.t 16), none⟩]
def b_rotaref21_Frames_8 : IC := (.seq (.seq (.ops o_rotaref21_Frames_4) (.cond (.t 14) .skip (.exit 0))) (.seq (.block 1 (.seq (.ops o_rotaref21_Frames_5) (.cond (.t 25) (.seq (.ops o_rotaref21_Frames_6) .ret) .skip))) (.ops o_rotaref21_Frames_7)))
abbrev o_rotaref21_Frames_9 : List IOper := [⟨(some 4), .mv (.k (.c (.bool true))), none⟩]
def c_rotaref21_Frames : IC := (.seq (.ops o_rotaref21_Frames_0) (.seq (.seq (.ops o_rotaref21_Frames_1) (.cond (.t 10) (.seq (.ops o_rotaref21_Frames_2) .ret) .skip)) (.seq (.seq (.ops o_rotaref21_Frames_3) (.block 0 (.loop b_rotaref21_Frames_8))) (.seq (.ops o_rotaref21_Frames_9) .ret))))
def i_rotaref21_Frames : IFn := ⟨26, c_rotaref21_Frames, [(4, none)]⟩

-- F 25 rota/rotaref20.Ints: bads 0, calls []
abbrev o_rotaref20_Ints_0 : List IOper := [⟨(some 4), .mv (.k (.c (.bool false))), none⟩]
abbrev o_rotaref20_Ints_1 : List IOper := [⟨(some 6), .mv (.t 0), none⟩,
  ⟨(some 7), .len false (.t 6), none⟩,
  ⟨(some 8), .mv (.t 1), none⟩,
  ⟨(some 9), .len false (.t 8), none⟩,
  ⟨(some 10), .bin .neq (.t 7) (.t 9), none⟩]
abbrev o_rotaref20_Ints_2 : List IOper := [⟨(some 4), .mv (.k (.c (.bool false))), none⟩]
abbrev o_rotaref20_Ints_3 : List IOper := [⟨(some 5), .mv (.k (.c (.int .i64 0))), none⟩]
abbrev o_rotaref20_Ints_4 : List IOper := [⟨(some 11), .mv (.t 5), none⟩,
  ⟨(some 12), .mv (.t 0), none⟩,
  ⟨(some 13), .len false (.t 12), none⟩,
  ⟨(some 14), .bin .lss (.t 11) (.t 13), none⟩]
abbrev o_rotaref20_Ints_5 : List IOper := [⟨(some 17), .mv (.t 0), none⟩,
  ⟨(some 18), .mv (.t 5), none⟩,
  ⟨(some 19), .iaS 1 (.t 17) (.t 18), none⟩,
  ⟨(some 20), .ld none (.t 19), none⟩,
  ⟨(some 21), .mv (.t 1), none⟩,
  ⟨(some 22), .mv (.t 5), none⟩,
  ⟨(some 23), .iaS 1 (.t 21) (.t 22), none⟩,
  ⟨(some 24), .ld none (.t 23), none⟩,
  ⟨(some 25), .bin .neq (.t 20) (.t 24), none⟩]
abbrev o_rotaref20_Ints_6 : List IOper := [⟨(some 4), .mv (.k (.c (.bool false))), none⟩]
abbrev o_rotaref20_Ints_7 : List IOper := [⟨(some 15), .mv (.t 5), none⟩,
  ⟨(some 16), .bin .add (.t 15) (.k (.c (.int .i64 1))), none⟩,
  ⟨(some 5), .mv (.t 16), none⟩]
def b_rotaref20_Ints_8 : IC := (.seq (.seq (.ops o_rotaref20_Ints_4) (.cond (.t 14) .skip (.exit 0))) (.seq (.block 1 (.seq (.ops o_rotaref20_Ints_5) (.cond (.t 25) (.seq (.ops o_rotaref20_Ints_6) .ret) .skip))) (.ops o_rotaref20_Ints_7)))
abbrev o_rotaref20_Ints_9 : List IOper := [⟨(some 4), .mv (.k (.c (.bool true))), none⟩]
def c_rotaref20_Ints : IC := (.seq (.ops o_rotaref20_Ints_0) (.seq (.seq (.ops o_rotaref20_Ints_1) (.cond (.t 10) (.seq (.ops o_rotaref20_Ints_2) .ret) .skip)) (.seq (.seq (.ops o_rotaref20_Ints_3) (.block 0 (.loop b_rotaref20_Ints_8))) (.seq (.ops o_rotaref20_Ints_9) .ret))))
def i_rotaref20_Ints : IFn := ⟨26, c_rotaref20_Ints, [(4, none)]⟩

-- F 26 (*rota/rotaref21.Pair).Count: bads 0, calls []
abbrev o_rotaref21_Pair_Count_0 : List IOper := [⟨(some 6), .mv (.k (.c (.int .i64 0))), none⟩]
abbrev o_rotaref21_Pair_Count_1 : List IOper := [⟨(some 7), .mv (.t 1), none⟩,
  ⟨(some 8), .bin .lss (.t 7) (.k (.c (.int .i64 0))), none⟩,
  ⟨(some 9), .mv (.t 8), none⟩,
  ⟨(some 10), .mv (.t 1), some (9, false)⟩,
  ⟨(some 11), .mv (.t 0), some (9, false)⟩,
  ⟨(some 12), .nilck (.t 11), some (9, false)⟩,
  ⟨(some 13), .fa 0 (.t 12), some (9, false)⟩,
  ⟨(some 14), .fa 0 (.t 13), some (9, false)⟩,
  ⟨(some 15), .ld none (.t 14), some (9, false)⟩,
  ⟨(some 16), .bin .geq (.t 10) (.t 15), some (9, false)⟩,
  ⟨(some 17), .pick (.t 9) (.k (.c (.bool true))) (.t 16), none⟩,
  ⟨(some 18), .mv (.t 17), none⟩,
  ⟨(some 19), .mv (.t 2), some (18, false)⟩,
  ⟨(some 20), .bin .lss (.t 19) (.k (.c (.int .i64 0))), some (18, false)⟩,
  ⟨(some 21), .pick (.t 18) (.k (.c (.bool true))) (.t 20), none⟩,
  ⟨(some 22), .mv (.t 21), none⟩,
  ⟨(some 23), .mv (.t 2), some (22, false)⟩,
  ⟨(some 24), .bin .gtr (.t 23) (.k (.c (.int .i64 4))), some (22, false)⟩,
  ⟨(some 25), .pick (.t 22) (.k (.c (.bool true))) (.t 24), none⟩]
abbrev o_rotaref21_Pair_Count_2 : List IOper := [⟨(some 6), .mv (.k (.c (.int .i64 0))), none⟩]
abbrev o_rotaref21_Pair_Count_3 : List IOper := [⟨(some 26), .mv (.t 0), none⟩,
  ⟨(some 27), .mv (.t 1), none⟩,
  ⟨(some 28), .mv (.t 2), none⟩,
  ⟨(some 29), .nilck (.t 26), none⟩,
  ⟨(some 30), .fa 18 (.t 29), none⟩,
  ⟨(some 31), .iaA 16 5 (.t 30) (.t 27), none⟩,
  ⟨(some 32), .iaA 5 1 (.t 31) (.t 28), none⟩,
  ⟨(some 33), .ld none (.t 32), none⟩,
  ⟨(some 6), .mv (.t 33), none⟩]
def c_rotaref21_Pair_Count : IC := (.seq (.ops o_rotaref21_Pair_Count_0) (.seq (.seq (.ops o_rotaref21_Pair_Count_1) (.cond (.t 25) (.seq (.ops o_rotaref21_Pair_Count_2) .ret) .skip)) (.seq (.ops o_rotaref21_Pair_Count_3) .ret)))
def i_rotaref21_Pair_Count : IFn := ⟨34, c_rotaref21_Pair_Count, [(6, none)]⟩

-- F 27 (*rota/rotaref21.Pair).Losses: bads 0, calls []
abbrev o_rotaref21_Pair_Losses_0 : List IOper := [⟨(some 2), .mv (.k (.c (.int .i64 0))), none⟩,
  ⟨(some 3), .mv (.k (.c (.int .i64 0))), none⟩]
abbrev o_rotaref21_Pair_Losses_1 : List IOper := [⟨(some 4), .mv (.k (.c (.int .i64 0))), none⟩]
abbrev o_rotaref21_Pair_Losses_2 : List IOper := [⟨(some 5), .mv (.k (.c (.int .i64 0))), none⟩]
abbrev o_rotaref21_Pair_Losses_3 : List IOper := [⟨(some 6), .mv (.k (.c (.int .i64 0))), none⟩]
abbrev o_rotaref21_Pair_Losses_4 : List IOper := [⟨(some 7), .mv (.t 6), none⟩,
  ⟨(some 8), .bin .lss (.t 7) (.k (.c (.int .i64 16))), none⟩]
abbrev o_rotaref21_Pair_Losses_5 : List IOper := [⟨(some 11), .mv (.t 4), none⟩,
  ⟨(some 12), .mv (.t 0), none⟩,
  ⟨(some 13), .mv (.t 6), none⟩,
  ⟨(some 14), .nilck (.t 12), none⟩,
  ⟨(some 15), .fa 18 (.t 14), none⟩,
  ⟨(some 16), .iaA 16 5 (.t 15) (.t 13), none⟩,
  ⟨(some 17), .iaA 5 1 (.t 16) (.k (.c (.int .i64 2))), none⟩,
  ⟨(some 18), .ld none (.t 17), none⟩,
  ⟨(some 19), .bin .add (.t 11) (.t 18), none⟩,
  ⟨(some 4), .mv (.t 19), none⟩]
abbrev o_rotaref21_Pair_Losses_6 : List IOper := [⟨(some 20), .mv (.t 5), none⟩,
  ⟨(some 21), .mv (.t 0), none⟩,
  ⟨(some 22), .mv (.t 6), none⟩,
  ⟨(some 23), .nilck (.t 21), none⟩,
  ⟨(some 24), .fa 18 (.t 23), none⟩,
  ⟨(some 25), .iaA 16 5 (.t 24) (.t 22), none⟩,
  ⟨(some 26), .iaA 5 1 (.t 25) (.k (.c (.int .i64 1))), none⟩,
  ⟨(some 27), .ld none (.t 26), none⟩,
  ⟨(some 28), .bin .add (.t 20) (.t 27), none⟩,
  ⟨(some 5), .mv (.t 28), none⟩]
abbrev o_rotaref21_Pair_Losses_7 : List IOper := [⟨(some 9), .mv (.t 6), none⟩,
  ⟨(some 10), .bin .add (.t 9) (.k (.c (.int .i64 1))), none⟩,
  ⟨(some 6), .mv (.t 10), none⟩]
def b_rotaref21_Pair_Losses_8 : IC := (.seq (.seq (.ops o_rotaref21_Pair_Losses_4) (.cond (.t 8) .skip (.exit 0))) (.seq (.block 1 (.seq (.ops o_rotaref21_Pair_Losses_5) (.ops o_rotaref21_Pair_Losses_6))) (.ops o_rotaref21_Pair_Losses_7)))
abbrev o_rotaref21_Pair_Losses_9 : List IOper := [⟨(some 29), .mv (.t 4), none⟩,
  ⟨(some 30), .mv (.t 5), none⟩,
  ⟨(some 2), .mv (.t 29), none⟩,
  ⟨(some 3), .mv (.t 30), none⟩]
def c_rotaref21_Pair_Losses : IC := (.seq (.ops o_rotaref21_Pair_Losses_0) (.seq (.ops o_rotaref21_Pair_Losses_1) (.seq (.ops o_rotaref21_Pair_Losses_2) (.seq (.seq (.ops o_rotaref21_Pair_Losses_3) (.block 0 (.loop b_rotaref21_Pair_Losses_8))) (.seq (.ops o_rotaref21_Pair_Losses_9) .ret)))))
def i_rotaref21_Pair_Losses : IFn := ⟨31, c_rotaref21_Pair_Losses, [(2, none), (3, none)]⟩

-- F 28 (*rota/dual.Pair).Blocked: bads 0, calls [37, 42, 42]
abbrev o_dual_Pair_Blocked_0 : List IOper := [⟨(some 2), .mv (.k (.c (.int .u64 0))), none⟩]
abbrev o_dual_Pair_Blocked_1 : List IOper := [⟨(some 3), .mv (.t 0), none⟩,
  ⟨(some 4), .call (.k (.c (.fn fn_dual_Pair_none [] []))) [(.t 3)], none⟩]
abbrev o_dual_Pair_Blocked_2 : List IOper := [⟨(some 2), .mv (.k (.c (.int .u64 0))), none⟩]
abbrev o_dual_Pair_Blocked_3 : List IOper := [⟨(some 11), .mv (.t 0), none⟩,
  ⟨(some 12), .nilck (.t 11), none⟩,
  ⟨(some 13), .fa 12 (.t 12), none⟩,
  ⟨(some 14), .iaA 2 1 (.t 13) (.k (.c (.int .i64 1))), none⟩,
  ⟨(some 15), .ld none (.t 14), none⟩,
  ⟨(some 5), .mv (.t 0), none⟩,
  ⟨(some 6), .nilck (.t 5), none⟩,
  ⟨(some 7), .fa 12 (.t 6), none⟩,
  ⟨(some 8), .iaA 2 1 (.t 7) (.k (.c (.int .i64 0))), none⟩,
  ⟨(some 9), .ld none (.t 8), none⟩,
  ⟨(some 10), .call (.k (.c (.fn fn_bus_Bus_Blocked [] []))) [(.t 9)], none⟩,
  ⟨none, .same (some none) (.t 14) (.t 15), none⟩,
  ⟨(some 16), .call (.k (.c (.fn fn_bus_Bus_Blocked [] []))) [(.t 15)], none⟩,
  ⟨(some 17), .bin .add (.t 10) (.t 16), none⟩,
  ⟨(some 2), .mv (.t 17), none⟩]
def c_dual_Pair_Blocked : IC := (.seq (.ops o_dual_Pair_Blocked_0) (.seq (.seq (.ops o_dual_Pair_Blocked_1) (.cond (.t 4) (.seq (.ops o_dual_Pair_Blocked_2) .ret) .skip)) (.seq (.ops o_dual_Pair_Blocked_3) .ret)))
def i_dual_Pair_Blocked : IFn := ⟨18, c_dual_Pair_Blocked, [(2, none)]⟩

-- F 29 rota/rotalaw21.sent: bads 0, calls [16]
abbrev o_rotalaw21_sent_0 : List IOper := [⟨(some 2), .mv (.k (.c (.sl none 0 0 false))), none⟩]
abbrev o_rotalaw21_sent_1 : List IOper := [⟨(some 6), .build [(.int .i64 0), (.int .u16 0)] [(1, 1, (.k (.c (.int .u16 15))))], none⟩,
  ⟨(some 7), .build (List.replicate 2 (.int .i64 0) ++ [(.int .u16 0)] ++ List.replicate 64 (.int .u8 0)) [(0, 1, (.k (.c (.int .i64 2)))), (1, 2, (.t 6))], none⟩,
  ⟨(some 3), .new 29 (.agg (List.replicate 2 (.int .i64 0) ++ [(.int .u16 0)] ++ List.replicate 64 (.int .u8 0))), none⟩,
  ⟨none, .st 67 (.t 3) (.t 7), none⟩]
abbrev o_rotalaw21_sent_2 : List IOper := [⟨(some 8), .mv (.t 0), none⟩,
  ⟨(some 9), .fa 3 (.t 3), none⟩,
  ⟨(some 10), .iaA 64 1 (.t 9) (.k (.c (.int .i64 0))), none⟩,
  ⟨none, .st 1 (.t 10) (.t 8), none⟩]
abbrev o_rotalaw21_sent_3 : List IOper := [⟨(some 12), .ld (some 67) (.t 3), none⟩,
  ⟨(some 13), .call (.k (.c (.fn fn_frame_Encode [] []))) [(.t 12)], none⟩,
  ⟨(some 11), .mv (.t 13), none⟩,
  ⟨(some 14), .ext (.t 11) 0, none⟩,
  ⟨(some 15), .ext (.t 11) 1, none⟩,
  ⟨(some 4), .mv (.t 14), none⟩,
  ⟨(some 5), .mv (.t 15), none⟩]
abbrev o_rotalaw21_sent_4 : List IOper := [⟨(some 16), .mv (.t 4), none⟩,
  ⟨(some 2), .mv (.t 16), none⟩]
def c_rotalaw21_sent : IC := (.seq (.ops o_rotalaw21_sent_0) (.seq (.ops o_rotalaw21_sent_1) (.seq (.ops o_rotalaw21_sent_2) (.seq (.ops o_rotalaw21_sent_3) (.seq (.ops o_rotalaw21_sent_4) .ret)))))
def i_rotalaw21_sent : IFn := ⟨17, c_rotalaw21_sent, [(2, none)]⟩

-- F 30 rota/rotalaw21.took: bads 0, calls [9]
abbrev o_rotalaw21_took_0 : List IOper := [⟨(some 10), .mv (.k (.c (.bool false))), none⟩]
abbrev o_rotalaw21_took_1 : List IOper := [⟨(some 14), .mv (.t 0), none⟩,
  ⟨(some 15), .build [(.int .i64 0), (.int .u16 0)] [(0, 1, (.t 14)), (1, 1, (.k (.c (.int .u16 15))))], none⟩,
  ⟨(some 16), .mv (.t 1), none⟩,
  ⟨(some 17), .mv (.t 2), none⟩,
  ⟨(some 18), .call (.k (.c (.fn fn_dual_Choose [] []))) [(.k (.c (.int .i64 2))), (.t 15), (.t 16), (.t 17)], none⟩,
  ⟨(some 13), .mv (.t 18), none⟩,
  ⟨(some 19), .ext (.t 13) 0, none⟩,
  ⟨(some 20), .ext (.t 13) 1, none⟩,
  ⟨(some 11), .new 29 (.agg (List.replicate 2 (.int .i64 0) ++ [(.int .u16 0)] ++ List.replicate 64 (.int .u8 0))), none⟩,
  ⟨none, .st 67 (.t 11) (.t 19), none⟩,
  ⟨(some 12), .mv (.t 20), none⟩]
abbrev o_rotalaw21_took_2 : List IOper := [⟨(some 21), .mv (.t 12), none⟩,
  ⟨(some 22), .mv (.t 3), none⟩,
  ⟨(some 23), .bin .eql (.t 21) (.t 22), none⟩,
  ⟨(some 24), .mv (.t 23), none⟩,
  ⟨(some 25), .fa 3 (.t 11), some (24, true)⟩,
  ⟨(some 26), .iaA 64 1 (.t 25) (.k (.c (.int .i64 0))), some (24, true)⟩,
  ⟨(some 27), .ld none (.t 26), some (24, true)⟩,
  ⟨(some 28), .mv (.t 4), some (24, true)⟩,
  ⟨(some 29), .bin .eql (.t 27) (.t 28), some (24, true)⟩,
  ⟨(some 30), .pick (.t 24) (.t 29) (.k (.c (.bool false))), none⟩,
  ⟨(some 31), .mv (.t 30), none⟩,
  ⟨(some 32), .mv (.t 3), some (31, true)⟩,
  ⟨(some 33), .bin .eql (.t 32) (.k (.c (.int .i64 0))), some (31, true)⟩,
  ⟨(some 34), .mv (.t 33), some (31, true)⟩,
  ⟨(some 35), .mv (.t 3), some (34, false)⟩,
  ⟨(some 36), .bin .eql (.t 35) (.k (.c (.int .i64 4))), some (34, false)⟩,
  ⟨(some 37), .pick (.t 34) (.k (.c (.bool true))) (.t 36), some (31, true)⟩,
  ⟨(some 38), .ld (some 67) (.t 11), some (31, true)⟩,
  ⟨(some 39), .build (List.replicate 2 (.int .i64 0) ++ [(.int .u16 0)] ++ List.replicate 64 (.int .u8 0)) [], some (31, true)⟩,
  ⟨(some 40), .eqagg [.int, .int, .int, .int, .int, .int, .int, .int, .int, .int, .int, .int, .int, .int, .int, .int, .int, .int, .int, .int, .int, .int, .int, .int, .int, .int, .int, .int, .int, .int, .int, .int, .int, .int, .int, .int, .int, .int, .int, .int, .int, .int, .int, .int, .int, .int, .int, .int, .int, .int, .int, .int, .int, .int, .int, .int, .int, .int, .int, .int, .int, .int, .int, .int, .int, .int, .int] false (.t 38) (.t 39), some (31, true)⟩,
  ⟨(some 41), .eq .bool false (.t 37) (.t 40), some (31, true)⟩,
  ⟨(some 42), .pick (.t 31) (.t 41) (.k (.c (.bool false))), none⟩,
  ⟨(some 10), .mv (.t 42), none⟩]
def c_rotalaw21_took : IC := (.seq (.ops o_rotalaw21_took_0) (.seq (.ops o_rotalaw21_took_1) (.seq (.ops o_rotalaw21_took_2) .ret)))
def i_rotalaw21_took : IFn := ⟨43, c_rotalaw21_took, [(10, none)]⟩

-- F 31 rota/dual.Choose$1: bads 0, calls [32]
abbrev o_dual_Choose_1_0 : List IOper := [⟨(some 6), .mv (.k (.c (.bool false))), none⟩]
abbrev o_dual_Choose_1_1 : List IOper := [⟨(some 10), .mv (.t 0), none⟩,
  ⟨(some 11), .iaA 2 1 (.t 1) (.t 10), none⟩,
  ⟨(some 12), .ld none (.t 11), none⟩,
  ⟨(some 13), .ld none (.t 2), none⟩,
  ⟨(some 14), .ld (some 2) (.t 3), none⟩,
  ⟨(some 15), .call (.k (.c (.fn fn_frame_Accept [] []))) [(.t 12), (.t 13), (.t 14)], none⟩,
  ⟨(some 9), .mv (.t 15), none⟩,
  ⟨(some 16), .ext (.t 9) 0, none⟩,
  ⟨(some 17), .ext (.t 9) 1, none⟩,
  ⟨(some 7), .new 29 (.agg (List.replicate 2 (.int .i64 0) ++ [(.int .u16 0)] ++ List.replicate 64 (.int .u8 0))), none⟩,
  ⟨none, .st 67 (.t 7) (.t 16), none⟩,
  ⟨(some 8), .mv (.t 17), none⟩]
abbrev o_dual_Choose_1_2 : List IOper := [⟨(some 18), .mv (.t 0), none⟩,
  ⟨(some 19), .ld (some 67) (.t 7), none⟩,
  ⟨(some 20), .iaA 2 67 (.t 4) (.t 18), none⟩,
  ⟨none, .st 67 (.t 20) (.t 19), none⟩]
abbrev o_dual_Choose_1_3 : List IOper := [⟨(some 21), .mv (.t 0), none⟩,
  ⟨(some 22), .iaA 2 1 (.t 1) (.t 21), none⟩,
  ⟨(some 23), .ld none (.t 22), none⟩,
  ⟨(some 24), .eq .sl true (.t 23) (.k (.c (.sl none 0 0 false))), none⟩,
  ⟨(some 25), .mv (.t 24), none⟩,
  ⟨(some 26), .mv (.t 8), some (25, true)⟩,
  ⟨(some 27), .bin .eql (.t 26) (.k (.c (.int .i64 0))), some (25, true)⟩,
  ⟨(some 28), .pick (.t 25) (.t 27) (.k (.c (.bool false))), none⟩,
  ⟨(some 6), .mv (.t 28), none⟩]
def c_dual_Choose_1 : IC := (.seq (.ops o_dual_Choose_1_0) (.seq (.ops o_dual_Choose_1_1) (.seq (.ops o_dual_Choose_1_2) (.seq (.ops o_dual_Choose_1_3) .ret))))
def i_dual_Choose_1 : IFn := ⟨29, c_dual_Choose_1, [(6, none)]⟩

-- F 32 rota/frame.Accept: bads 0, calls [43, 35, 36, 45, 44]
abbrev o_frame_Accept_0 : List IOper := [⟨(some 5), .box 24 (.t 2), none⟩,
  ⟨(some 6), .new 29 (.agg (List.replicate 2 (.int .i64 0) ++ [(.int .u16 0)] ++ List.replicate 64 (.int .u8 0))), none⟩,
  ⟨(some 7), .mv (.k (.c (.int .i64 0))), none⟩]
abbrev o_frame_Accept_1 : List IOper := [⟨(some 11), .mv (.t 0), none⟩,
  ⟨(some 12), .call (.k (.c (.fn fn_frame_read [] []))) [(.t 11)], none⟩,
  ⟨(some 10), .mv (.t 12), none⟩,
  ⟨(some 13), .ext (.t 10) 0, none⟩,
  ⟨(some 14), .ext (.t 10) 1, none⟩,
  ⟨(some 8), .new 29 (.agg (List.replicate 2 (.int .i64 0) ++ [(.int .u16 0)] ++ List.replicate 64 (.int .u8 0))), none⟩,
  ⟨none, .st 67 (.t 8) (.t 13), none⟩,
  ⟨(some 9), .mv (.t 14), none⟩]
abbrev o_frame_Accept_2 : List IOper := [⟨(some 15), .mv (.t 9), none⟩,
  ⟨(some 16), .un .not (.t 15), none⟩]
abbrev o_frame_Accept_3 : List IOper := [⟨(some 17), .build (List.replicate 2 (.int .i64 0) ++ [(.int .u16 0)] ++ List.replicate 64 (.int .u8 0)) [], none⟩,
  ⟨none, .st 67 (.t 6) (.t 17), none⟩,
  ⟨(some 7), .mv (.k (.c (.int .i64 30))), none⟩]
abbrev o_frame_Accept_4 : List IOper := [⟨(some 18), .mv (.t 0), none⟩,
  ⟨(some 19), .ld (some 2) (.t 5), none⟩,
  ⟨(some 20), .call (.k (.c (.fn fn_frame_state [] []))) [(.t 19)], none⟩,
  ⟨(some 21), .call (.k (.c (.fn fn_sum_Sum [] []))) [(.t 20)], none⟩,
  ⟨(some 22), .mv (.t 0), none⟩,
  ⟨(some 23), .slS 1 (.t 22) (some (.k (.c (.int .i64 6)))) (some (.k (.c (.int .i64 71)))) none, none⟩,
  ⟨(some 24), .call (.k (.c (.fn fn_sum_More [] []))) [(.t 21), (.t 23)], none⟩,
  ⟨(some 25), .call (.k (.c (.fn fn_frame_checked [] []))) [(.t 18), (.t 24)], none⟩,
  ⟨(some 26), .un .not (.t 25), none⟩]
abbrev o_frame_Accept_5 : List IOper := [⟨(some 27), .build (List.replicate 2 (.int .i64 0) ++ [(.int .u16 0)] ++ List.replicate 64 (.int .u8 0)) [], none⟩,
  ⟨none, .st 67 (.t 6) (.t 27), none⟩,
  ⟨(some 7), .mv (.k (.c (.int .i64 31))), none⟩]
abbrev o_frame_Accept_6 : List IOper := [⟨(some 28), .fa 0 (.t 8), none⟩,
  ⟨(some 29), .ld none (.t 28), none⟩,
  ⟨(some 30), .mv (.t 1), none⟩,
  ⟨(some 31), .bin .neq (.t 29) (.t 30), none⟩,
  ⟨(some 32), .mv (.t 31), none⟩,
  ⟨(some 33), .fa 1 (.t 8), some (32, false)⟩,
  ⟨(some 34), .ld (some 2) (.t 33), some (32, false)⟩,
  ⟨(some 35), .ld (some 2) (.t 5), some (32, false)⟩,
  ⟨(some 36), .eqagg [.int, .int] true (.t 34) (.t 35), some (32, false)⟩,
  ⟨(some 37), .pick (.t 32) (.k (.c (.bool true))) (.t 36), none⟩]
abbrev o_frame_Accept_7 : List IOper := [⟨(some 38), .build (List.replicate 2 (.int .i64 0) ++ [(.int .u16 0)] ++ List.replicate 64 (.int .u8 0)) [], none⟩,
  ⟨none, .st 67 (.t 6) (.t 38), none⟩,
  ⟨(some 7), .mv (.k (.c (.int .i64 30))), none⟩]
abbrev o_frame_Accept_8 : List IOper := [⟨(some 39), .ld (some 67) (.t 8), none⟩,
  ⟨none, .st 67 (.t 6) (.t 39), none⟩,
  ⟨(some 7), .mv (.k (.c (.int .i64 0))), none⟩]
def c_frame_Accept : IC := (.seq (.ops o_frame_Accept_0) (.seq (.ops o_frame_Accept_1) (.seq (.seq (.ops o_frame_Accept_2) (.cond (.t 16) (.seq (.ops o_frame_Accept_3) .ret) .skip)) (.seq (.seq (.ops o_frame_Accept_4) (.cond (.t 26) (.seq (.ops o_frame_Accept_5) .ret) .skip)) (.seq (.seq (.ops o_frame_Accept_6) (.cond (.t 37) (.seq (.ops o_frame_Accept_7) .ret) .skip)) (.seq (.ops o_frame_Accept_8) .ret))))))
def i_frame_Accept : IFn := ⟨40, c_frame_Accept, [(6, (some (some 67))), (7, none)]⟩

-- F 33 rota/rotaref03.Accept: bads 0, calls [46, 47, 48]
abbrev o_rotaref03_Accept_0 : List IOper := [⟨(some 5), .box 24 (.t 2), none⟩,
  ⟨(some 6), .new 29 (.agg (List.replicate 2 (.int .i64 0) ++ [(.int .u16 0)] ++ List.replicate 64 (.int .u8 0))), none⟩,
  ⟨(some 7), .mv (.k (.c (.int .i64 0))), none⟩]
abbrev o_rotaref03_Accept_1 : List IOper := [⟨(some 12), .mv (.t 0), none⟩,
  ⟨(some 13), .call (.k (.c (.fn fn_rotaref03_told [] []))) [(.t 12)], none⟩,
  ⟨(some 11), .mv (.t 13), none⟩,
  ⟨(some 14), .ext (.t 11) 0, none⟩,
  ⟨(some 15), .ext (.t 11) 1, none⟩,
  ⟨(some 8), .new 29 (.agg (List.replicate 2 (.int .i64 0) ++ [(.int .u16 0)] ++ List.replicate 64 (.int .u8 0))), none⟩,
  ⟨none, .st 67 (.t 8) (.t 14), none⟩,
  ⟨(some 9), .mv (.t 15), none⟩]
abbrev o_rotaref03_Accept_2 : List IOper := [⟨(some 16), .mv (.t 9), none⟩,
  ⟨(some 17), .un .not (.t 16), none⟩]
abbrev o_rotaref03_Accept_3 : List IOper := [⟨(some 18), .build (List.replicate 2 (.int .i64 0) ++ [(.int .u16 0)] ++ List.replicate 64 (.int .u8 0)) [], none⟩,
  ⟨none, .st 67 (.t 6) (.t 18), none⟩,
  ⟨(some 7), .mv (.k (.c (.int .i64 30))), none⟩]
abbrev o_rotaref03_Accept_4 : List IOper := [⟨(some 19), .ld (some 2) (.t 5), none⟩,
  ⟨(some 20), .call (.k (.c (.fn fn_rotaref03_State [] []))) [(.t 19)], none⟩,
  ⟨(some 21), .mv (.t 0), none⟩,
  ⟨(some 22), .slS 1 (.t 21) (some (.k (.c (.int .i64 6)))) (some (.k (.c (.int .i64 71)))) none, none⟩,
  ⟨(some 23), .app 5 1 1 (.t 20) (.t 22), none⟩,
  ⟨(some 10), .mv (.t 23), none⟩]
abbrev o_rotaref03_Accept_5 : List IOper := [⟨(some 24), .mv (.t 0), none⟩,
  ⟨(some 25), .mv (.t 10), none⟩,
  ⟨(some 26), .call (.k (.c (.fn fn_rotaref03_sealed [] []))) [(.t 24), (.t 25)], none⟩,
  ⟨(some 27), .un .not (.t 26), none⟩]
abbrev o_rotaref03_Accept_6 : List IOper := [⟨(some 28), .build (List.replicate 2 (.int .i64 0) ++ [(.int .u16 0)] ++ List.replicate 64 (.int .u8 0)) [], none⟩,
  ⟨none, .st 67 (.t 6) (.t 28), none⟩,
  ⟨(some 7), .mv (.k (.c (.int .i64 31))), none⟩]
abbrev o_rotaref03_Accept_7 : List IOper := [⟨(some 29), .fa 0 (.t 8), none⟩,
  ⟨(some 30), .ld none (.t 29), none⟩,
  ⟨(some 31), .mv (.t 1), none⟩,
  ⟨(some 32), .bin .neq (.t 30) (.t 31), none⟩,
  ⟨(some 33), .mv (.t 32), none⟩,
  ⟨(some 34), .fa 1 (.t 8), some (33, false)⟩,
  ⟨(some 35), .ld (some 2) (.t 34), some (33, false)⟩,
  ⟨(some 36), .ld (some 2) (.t 5), some (33, false)⟩,
  ⟨(some 37), .eqagg [.int, .int] true (.t 35) (.t 36), some (33, false)⟩,
  ⟨(some 38), .pick (.t 33) (.k (.c (.bool true))) (.t 37), none⟩]
abbrev o_rotaref03_Accept_8 : List IOper := [⟨(some 39), .build (List.replicate 2 (.int .i64 0) ++ [(.int .u16 0)] ++ List.replicate 64 (.int .u8 0)) [], none⟩,
  ⟨none, .st 67 (.t 6) (.t 39), none⟩,
  ⟨(some 7), .mv (.k (.c (.int .i64 30))), none⟩]
abbrev o_rotaref03_Accept_9 : List IOper := [⟨(some 40), .ld (some 67) (.t 8), none⟩,
  ⟨none, .st 67 (.t 6) (.t 40), none⟩,
  ⟨(some 7), .mv (.k (.c (.int .i64 0))), none⟩]
def c_rotaref03_Accept : IC := (.seq (.ops o_rotaref03_Accept_0) (.seq (.ops o_rotaref03_Accept_1) (.seq (.seq (.ops o_rotaref03_Accept_2) (.cond (.t 17) (.seq (.ops o_rotaref03_Accept_3) .ret) .skip)) (.seq (.ops o_rotaref03_Accept_4) (.seq (.seq (.ops o_rotaref03_Accept_5) (.cond (.t 27) (.seq (.ops o_rotaref03_Accept_6) .ret) .skip)) (.seq (.seq (.ops o_rotaref03_Accept_7) (.cond (.t 38) (.seq (.ops o_rotaref03_Accept_8) .ret) .skip)) (.seq (.ops o_rotaref03_Accept_9) .ret)))))))
def i_rotaref03_Accept : IFn := ⟨41, c_rotaref03_Accept, [(6, (some (some 67))), (7, none)]⟩

-- F 34 rota/bus.New: bads 0, calls [49, 50]
abbrev o_bus_New_0 : List IOper := [⟨(some 1), .box 39 (.t 0), none⟩,
  ⟨(some 2), .mv (.k (.c (.ptr none))), none⟩,
  ⟨(some 3), .mv (.k (.c (.int .i64 0))), none⟩]
abbrev o_bus_New_1 : List IOper := [⟨(some 5), .ld (some 12) (.t 1), none⟩,
  ⟨(some 6), .call (.k (.c (.fn fn_config_Check [] []))) [(.t 5)], none⟩,
  ⟨(some 4), .mv (.t 6), none⟩]
abbrev o_bus_New_2 : List IOper := [⟨(some 7), .mv (.t 4), none⟩,
  ⟨(some 8), .bin .neq (.t 7) (.k (.c (.int .i64 0))), none⟩]
abbrev o_bus_New_3 : List IOper := [⟨(some 9), .mv (.t 4), none⟩,
  ⟨(some 2), .mv (.k (.c (.ptr none))), none⟩,
  ⟨(some 3), .mv (.t 9), none⟩]
abbrev o_bus_New_4 : List IOper := [⟨(some 10), .fa 1 (.t 1), none⟩,
  ⟨(some 11), .ld none (.t 10), none⟩,
  ⟨(some 12), .call (.k (.c (.fn fn_slices_Clone_int_int [] []))) [(.t 11)], none⟩,
  ⟨(some 13), .build [(.sl none 0 0 false), (.int .u64 0), (.int .u64 0)] [(0, 1, (.t 12))], none⟩,
  ⟨(some 14), .box 130 (.t 13), none⟩,
  ⟨(some 2), .mv (.t 14), none⟩,
  ⟨(some 3), .mv (.k (.c (.int .i64 0))), none⟩]
def c_bus_New : IC := (.seq (.ops o_bus_New_0) (.seq (.seq (.ops o_bus_New_1) (.seq (.ops o_bus_New_2) (.cond (.t 8) (.seq (.ops o_bus_New_3) .ret) .skip))) (.seq (.ops o_bus_New_4) .ret)))
def i_bus_New : IFn := ⟨15, c_bus_New, [(2, none), (3, none)]⟩

-- F 35 rota/frame.state: bads 0, calls []
abbrev o_frame_state_0 : List IOper := [⟨(some 1), .box 24 (.t 0), none⟩,
  ⟨(some 2), .mv (.k (.c (.sl none 0 0 false))), none⟩]
abbrev o_frame_state_1 : List IOper := [⟨(some 4), .fa 0 (.t 1), none⟩,
  ⟨(some 5), .ld none (.t 4), none⟩,
  ⟨(some 6), .cv .u32 (.t 5), none⟩,
  ⟨(some 3), .mv (.t 6), none⟩]
abbrev o_frame_state_2 : List IOper := [⟨(some 7), .mv (.t 3), none⟩,
  ⟨(some 8), .bin .shr (.t 7) (.k (.c (.int .u64 24))), none⟩,
  ⟨(some 9), .cv .u8 (.t 8), none⟩,
  ⟨(some 10), .mv (.t 3), none⟩,
  ⟨(some 11), .bin .shr (.t 10) (.k (.c (.int .u64 16))), none⟩,
  ⟨(some 12), .cv .u8 (.t 11), none⟩,
  ⟨(some 13), .mv (.t 3), none⟩,
  ⟨(some 14), .bin .shr (.t 13) (.k (.c (.int .u64 8))), none⟩,
  ⟨(some 15), .cv .u8 (.t 14), none⟩,
  ⟨(some 16), .mv (.t 3), none⟩,
  ⟨(some 17), .cv .u8 (.t 16), none⟩,
  ⟨(some 18), .fa 1 (.t 1), none⟩,
  ⟨(some 19), .ld none (.t 18), none⟩,
  ⟨(some 20), .bin .shr (.t 19) (.k (.c (.int .u64 8))), none⟩,
  ⟨(some 21), .cv .u8 (.t 20), none⟩,
  ⟨(some 22), .fa 1 (.t 1), none⟩,
  ⟨(some 23), .ld none (.t 22), none⟩,
  ⟨(some 24), .cv .u8 (.t 23), none⟩,
  ⟨(some 25), .bsl 5 6 (List.replicate 6 (.int .u8 0)) [(0, 1, (.t 9)), (1, 1, (.t 12)), (2, 1, (.t 15)), (3, 1, (.t 17)), (4, 1, (.t 21)), (5, 1, (.t 24))], none⟩,
  ⟨(some 2), .mv (.t 25), none⟩]
def c_frame_state : IC := (.seq (.ops o_frame_state_0) (.seq (.ops o_frame_state_1) (.seq (.ops o_frame_state_2) .ret)))
def i_frame_state : IFn := ⟨26, c_frame_state, [(2, none)]⟩

-- F 36 rota/sum.Sum: bads 0, calls [45]
abbrev o_sum_Sum_0 : List IOper := [⟨(some 2), .mv (.k (.c (.int .u32 0))), none⟩]
abbrev o_sum_Sum_1 : List IOper := [⟨(some 3), .mv (.t 0), none⟩,
  ⟨(some 4), .call (.k (.c (.fn fn_sum_More [] []))) [(.k (.c (.int .u32 0))), (.t 3)], none⟩,
  ⟨(some 2), .mv (.t 4), none⟩]
def c_sum_Sum : IC := (.seq (.ops o_sum_Sum_0) (.seq (.ops o_sum_Sum_1) .ret))
def i_sum_Sum : IFn := ⟨5, c_sum_Sum, [(2, none)]⟩

-- F 37 (*rota/dual.Pair).none: bads 0, calls []
abbrev o_dual_Pair_none_0 : List IOper := [⟨(some 2), .mv (.k (.c (.bool false))), none⟩]
abbrev o_dual_Pair_none_1 : List IOper := [⟨(some 3), .mv (.t 0), none⟩,
  ⟨(some 4), .eq .ptr false (.t 3) (.k (.c (.ptr none))), none⟩,
  ⟨(some 5), .mv (.t 4), none⟩,
  ⟨(some 6), .mv (.t 0), some (5, false)⟩,
  ⟨(some 7), .nilck (.t 6), some (5, false)⟩,
  ⟨(some 8), .fa 12 (.t 7), some (5, false)⟩,
  ⟨(some 9), .iaA 2 1 (.t 8) (.k (.c (.int .i64 0))), some (5, false)⟩,
  ⟨(some 10), .ld none (.t 9), some (5, false)⟩,
  ⟨(some 11), .eq .ptr false (.t 10) (.k (.c (.ptr none))), some (5, false)⟩,
  ⟨(some 12), .pick (.t 5) (.k (.c (.bool true))) (.t 11), none⟩,
  ⟨(some 2), .mv (.t 12), none⟩]
def c_dual_Pair_none : IC := (.seq (.ops o_dual_Pair_none_0) (.seq (.ops o_dual_Pair_none_1) .ret))
def i_dual_Pair_none : IFn := ⟨13, c_dual_Pair_none, [(2, none)]⟩

-- F 38 (*rota/bus.Bus).Carry: bads 0, calls [51, 52, 53, 39]
abbrev o_bus_Bus_Carry_0 : List IOper := [⟨(some 8), .mv (.k (.c (.sl none 0 0 false))), none⟩,
  ⟨(some 9), .mv (.k (.c (.int .i64 0))), none⟩]
abbrev o_bus_Bus_Carry_1 : List IOper := [⟨(some 17), .mv (.t 0), none⟩,
  ⟨(some 18), .eq .ptr false (.t 17) (.k (.c (.ptr none))), none⟩,
  ⟨(some 16), .mv (.t 18), none⟩]
abbrev o_bus_Bus_Carry_2 : List IOper := [⟨(some 8), .mv (.k (.c (.sl none 0 0 false))), none⟩,
  ⟨(some 9), .mv (.k (.c (.int .i64 1))), none⟩]
abbrev o_bus_Bus_Carry_3 : List IOper := [⟨(some 20), .mv (.t 1), none⟩,
  ⟨(some 21), .bin .lss (.t 20) (.k (.c (.int .i64 0))), none⟩,
  ⟨(some 19), .mv (.t 21), none⟩]
abbrev o_bus_Bus_Carry_4 : List IOper := [⟨(some 8), .mv (.k (.c (.sl none 0 0 false))), none⟩,
  ⟨(some 9), .mv (.k (.c (.int .i64 2))), none⟩]
abbrev o_bus_Bus_Carry_5 : List IOper := [⟨(some 22), .mv (.t 0), none⟩,
  ⟨(some 23), .nilck (.t 22), none⟩,
  ⟨(some 24), .fa 0 (.t 23), none⟩,
  ⟨(some 25), .ld none (.t 24), none⟩,
  ⟨(some 26), .len false (.t 25), none⟩,
  ⟨(some 27), .mksl 25 1 24 [(.sl none 0 0 false)] (.t 26) (.t 26), none⟩,
  ⟨(some 10), .mv (.t 27), none⟩]
abbrev o_bus_Bus_Carry_6 : List IOper := [⟨(some 29), .mv (.t 0), none⟩,
  ⟨(some 30), .mv (.t 1), none⟩,
  ⟨(some 31), .mv (.t 2), none⟩,
  ⟨(some 32), .call (.k (.c (.fn fn_bus_Bus_pass [] []))) [(.t 29), (.t 30), (.t 31)], none⟩,
  ⟨(some 28), .mv (.t 32), none⟩,
  ⟨(some 33), .ext (.t 28) 0, none⟩,
  ⟨(some 34), .ext (.t 28) 1, none⟩,
  ⟨(some 11), .new 25 (.c (.sl none 0 0 false)), none⟩,
  ⟨none, .st 1 (.t 11) (.t 33), none⟩,
  ⟨(some 12), .mv (.t 34), none⟩]
abbrev o_bus_Bus_Carry_7 : List IOper := [⟨(some 35), .mv (.t 12), none⟩,
  ⟨(some 36), .un .not (.t 35), none⟩]
abbrev o_bus_Bus_Carry_8 : List IOper := [⟨(some 37), .mv (.t 10), none⟩,
  ⟨(some 8), .mv (.t 37), none⟩,
  ⟨(some 9), .mv (.k (.c (.int .i64 0))), none⟩]
abbrev o_bus_Bus_Carry_9 : List IOper := [⟨(some 38), .mkfn fn_bus_Bus_Carry_1 [] [(.t 11)], none⟩,
  ⟨(some 13), .mv (.t 38), none⟩]
abbrev o_bus_Bus_Carry_10 : List IOper := [⟨(some 39), .mv (.t 10), none⟩,
  ⟨(some 40), .len false (.t 39), none⟩,
  ⟨(some 41), .mv (.k (.c (.int .i64 0))), none⟩]
abbrev o_bus_Bus_Carry_11 : List IOper := [⟨(some 42), .bin .lss (.t 41) (.t 40), none⟩]
abbrev o_bus_Bus_Carry_12 : List IOper := [⟨(some 43), .mv (.t 41), none⟩,
  ⟨(some 14), .mv (.t 43), none⟩]
abbrev o_bus_Bus_Carry_13 : List IOper := [⟨(some 44), .build [(.int .i64 0), (.int .i64 0), (.int .u32 0)] [], none⟩,
  ⟨(some 15), .new 65 (.agg [(.int .i64 0), (.int .i64 0), (.int .u32 0)]), none⟩,
  ⟨none, .st 3 (.t 15) (.t 44), none⟩]
abbrev o_bus_Bus_Carry_14 : List IOper := [⟨(some 45), .mv (.t 14), none⟩,
  ⟨(some 46), .mv (.t 3), none⟩,
  ⟨(some 47), .len false (.t 46), none⟩,
  ⟨(some 48), .bin .lss (.t 45) (.t 47), none⟩,
  ⟨(some 49), .mv (.t 48), none⟩,
  ⟨(some 50), .mv (.t 14), some (49, true)⟩,
  ⟨(some 51), .mv (.t 0), some (49, true)⟩,
  ⟨(some 52), .mv (.t 1), some (49, true)⟩,
  ⟨(some 53), .call (.k (.c (.fn fn_bus_Bus_owner [] []))) [(.t 51), (.t 52)], some (49, true)⟩,
  ⟨(some 54), .bin .neq (.t 50) (.t 53), some (49, true)⟩,
  ⟨(some 55), .pick (.t 49) (.t 54) (.k (.c (.bool false))), none⟩]
abbrev o_bus_Bus_Carry_15 : List IOper := [⟨(some 56), .mv (.t 3), none⟩,
  ⟨(some 57), .mv (.t 14), none⟩,
  ⟨(some 58), .iaS 3 (.t 56) (.t 57), none⟩,
  ⟨(some 59), .ld (some 3) (.t 58), none⟩,
  ⟨none, .st 3 (.t 15) (.t 59), none⟩]
abbrev o_bus_Bus_Carry_16 : List IOper := [⟨(some 60), .fa 0 (.t 15), none⟩,
  ⟨(some 61), .ld none (.t 60), none⟩]
abbrev o_bus_Bus_Carry_17 : List IOper := [⟨(some 68), .bin .eql (.t 61) (.k (.c (.int .i64 1))), none⟩,
  ⟨(some 67), .mv (.t 68), none⟩]
abbrev o_bus_Bus_Carry_18 : List IOper := [⟨(some 70), .bin .eql (.t 61) (.k (.c (.int .i64 2))), none⟩,
  ⟨(some 69), .mv (.t 70), none⟩]
abbrev o_bus_Bus_Carry_19 : List IOper := [⟨(some 71), .mv (.t 10), none⟩,
  ⟨(some 72), .mv (.t 14), none⟩,
  ⟨(some 73), .bsl 5 0 [] [], none⟩,
  ⟨(some 74), .ld none (.t 11), none⟩,
  ⟨(some 75), .fa 1 (.t 15), none⟩,
  ⟨(some 76), .ld none (.t 75), none⟩,
  ⟨(some 77), .fa 2 (.t 15), none⟩,
  ⟨(some 78), .ld none (.t 77), none⟩,
  ⟨(some 79), .call (.k (.c (.fn fn_frame_Corrupt [] []))) [(.t 74), (.t 76), (.t 78)], none⟩,
  ⟨(some 80), .app 5 1 1 (.t 73) (.t 79), none⟩,
  ⟨(some 81), .iaS 1 (.t 71) (.t 72), none⟩,
  ⟨none, .st 1 (.t 81) (.t 80), none⟩]
abbrev o_bus_Bus_Carry_20 : List IOper := [⟨(some 62), .mv (.t 10), none⟩,
  ⟨(some 63), .mv (.t 14), none⟩,
  ⟨(some 64), .mv (.t 13), none⟩,
  ⟨(some 65), .call (.t 64) [], none⟩,
  ⟨(some 66), .iaS 1 (.t 62) (.t 63), none⟩,
  ⟨none, .st 1 (.t 66) (.t 65), none⟩]
abbrev o_bus_Bus_Carry_21 : List IOper := [⟨(some 82), .bin .add (.t 41) (.k (.c (.int .i64 1))), none⟩,
  ⟨(some 41), .mv (.t 82), none⟩]
def b_bus_Bus_Carry_22 : IC := (.seq (.ops o_bus_Bus_Carry_11) (.seq (.cond (.t 42) .skip (.exit 1)) (.seq (.block 2 (.seq (.ops o_bus_Bus_Carry_12) (.seq (.ops o_bus_Bus_Carry_13) (.seq (.seq (.ops o_bus_Bus_Carry_14) (.cond (.t 55) (.ops o_bus_Bus_Carry_15) .skip)) (.seq (.ops o_bus_Bus_Carry_16) (.block 3 (.seq (.ops o_bus_Bus_Carry_17) (.cond (.t 67) .skip (.seq (.ops o_bus_Bus_Carry_18) (.cond (.t 69) (.ops o_bus_Bus_Carry_19) (.ops o_bus_Bus_Carry_20))))))))))) (.ops o_bus_Bus_Carry_21))))
abbrev o_bus_Bus_Carry_23 : List IOper := [⟨(some 83), .mv (.t 10), none⟩,
  ⟨(some 8), .mv (.t 83), none⟩,
  ⟨(some 9), .mv (.k (.c (.int .i64 0))), none⟩]
def c_bus_Bus_Carry : IC := (.seq (.ops o_bus_Bus_Carry_0) (.seq (.block 0 (.seq (.ops o_bus_Bus_Carry_1) (.cond (.t 16) (.seq (.ops o_bus_Bus_Carry_2) .ret) (.seq (.ops o_bus_Bus_Carry_3) (.cond (.t 19) (.seq (.ops o_bus_Bus_Carry_4) .ret) .skip))))) (.seq (.ops o_bus_Bus_Carry_5) (.seq (.ops o_bus_Bus_Carry_6) (.seq (.seq (.ops o_bus_Bus_Carry_7) (.cond (.t 36) (.seq (.ops o_bus_Bus_Carry_8) .ret) .skip)) (.seq (.ops o_bus_Bus_Carry_9) (.seq (.seq (.ops o_bus_Bus_Carry_10) (.block 1 (.loop b_bus_Bus_Carry_22))) (.seq (.ops o_bus_Bus_Carry_23) .ret))))))))
def i_bus_Bus_Carry : IFn := ⟨84, c_bus_Bus_Carry, [(8, none), (9, none)]⟩

-- F 39 rota/frame.Corrupt: bads 0, calls [54, 55]
abbrev o_frame_Corrupt_0 : List IOper := [⟨(some 3), .box 25 (.t 0), none⟩,
  ⟨(some 4), .box 3 (.t 1), none⟩,
  ⟨(some 6), .mv (.k (.c (.sl none 0 0 false))), none⟩]
abbrev o_frame_Corrupt_1 : List IOper := [⟨(some 10), .ld none (.t 3), none⟩,
  ⟨(some 11), .call (.k (.c (.fn fn_slices_Clone_byte_byte [] []))) [(.t 10)], none⟩,
  ⟨(some 7), .new 25 (.c (.sl none 0 0 false)), none⟩,
  ⟨none, .st 1 (.t 7) (.t 11), none⟩]
abbrev o_frame_Corrupt_2 : List IOper := [⟨(some 12), .ld none (.t 4), none⟩,
  ⟨(some 13), .bin .lss (.t 12) (.k (.c (.int .i64 (-32)))), none⟩,
  ⟨(some 14), .mv (.t 13), none⟩,
  ⟨(some 15), .ld none (.t 4), some (14, false)⟩,
  ⟨(some 16), .ld none (.t 3), some (14, false)⟩,
  ⟨(some 17), .len false (.t 16), some (14, false)⟩,
  ⟨(some 18), .bin .mul (.k (.c (.int .i64 8))) (.t 17), some (14, false)⟩,
  ⟨(some 19), .bin .gtr (.t 15) (.t 18), some (14, false)⟩,
  ⟨(some 20), .pick (.t 14) (.k (.c (.bool true))) (.t 19), none⟩]
abbrev o_frame_Corrupt_3 : List IOper := [⟨(some 21), .ld none (.t 7), none⟩,
  ⟨(some 6), .mv (.t 21), none⟩]
abbrev o_frame_Corrupt_4 : List IOper := [⟨(some 22), .mv (.t 2), none⟩,
  ⟨(some 23), .call (.k (.c (.fn fn_frame_bits [] []))) [(.t 22)], none⟩]
abbrev o_frame_Corrupt_5 : List IOper := [⟨(some 8), .mv (.t 24), none⟩]
abbrev o_frame_Corrupt_6 : List IOper := [⟨(some 25), .ld none (.t 4), none⟩,
  ⟨(some 26), .mv (.t 8), none⟩,
  ⟨(some 27), .bin .add (.t 25) (.t 26), none⟩,
  ⟨(some 9), .mv (.t 27), none⟩]
abbrev o_frame_Corrupt_7 : List IOper := [⟨(some 28), .mv (.t 9), none⟩,
  ⟨(some 29), .bin .geq (.t 28) (.k (.c (.int .i64 0))), none⟩,
  ⟨(some 30), .mv (.t 29), none⟩,
  ⟨(some 31), .mv (.t 9), some (30, true)⟩,
  ⟨(some 32), .ld none (.t 3), some (30, true)⟩,
  ⟨(some 33), .len false (.t 32), some (30, true)⟩,
  ⟨(some 34), .bin .mul (.k (.c (.int .i64 8))) (.t 33), some (30, true)⟩,
  ⟨(some 35), .bin .lss (.t 31) (.t 34), some (30, true)⟩,
  ⟨(some 36), .pick (.t 30) (.t 35) (.k (.c (.bool false))), none⟩]
abbrev o_frame_Corrupt_8 : List IOper := [⟨(some 37), .ld none (.t 7), none⟩,
  ⟨(some 38), .mv (.t 9), none⟩,
  ⟨(some 39), .bin .quo (.t 38) (.k (.c (.int .i64 8))), none⟩,
  ⟨(some 40), .iaS 1 (.t 37) (.t 39), none⟩,
  ⟨(some 41), .ld none (.t 40), none⟩,
  ⟨(some 42), .mv (.t 9), none⟩,
  ⟨(some 43), .bin .rem (.t 42) (.k (.c (.int .i64 8))), none⟩,
  ⟨(some 44), .bin .shl (.k (.c (.int .u8 1))) (.t 43), none⟩,
  ⟨(some 45), .bin .xor (.t 41) (.t 44), none⟩,
  ⟨(some 46), .iaS 1 (.t 37) (.t 39), none⟩,
  ⟨none, .st 1 (.t 46) (.t 45), none⟩]
def a_frame_Corrupt_9 : IC := (.ops o_frame_Corrupt_5)
def b_frame_Corrupt_10 : IC := (.block 1 (.seq (.ops o_frame_Corrupt_6) (.seq (.ops o_frame_Corrupt_7) (.cond (.t 36) (.ops o_frame_Corrupt_8) .skip))))
abbrev o_frame_Corrupt_11 : List IOper := [⟨(some 47), .ld none (.t 7), none⟩,
  ⟨(some 6), .mv (.t 47), none⟩]
def c_frame_Corrupt : IC := (.seq (.ops o_frame_Corrupt_0) (.seq (.ops o_frame_Corrupt_1) (.seq (.seq (.ops o_frame_Corrupt_2) (.cond (.t 20) (.seq (.ops o_frame_Corrupt_3) .ret) .skip)) (.seq (.seq (.ops o_frame_Corrupt_4) (.block 0 (.rangeF (.t 23) [24] a_frame_Corrupt_9 b_frame_Corrupt_10))) (.seq (.ops o_frame_Corrupt_11) .ret)))))
def i_frame_Corrupt : IFn := ⟨48, c_frame_Corrupt, [(6, none)]⟩

-- F 40 rota/rotaref07.New: bads 0, calls [56]
abbrev o_rotaref07_New_0 : List IOper := [⟨(some 1), .box 39 (.t 0), none⟩,
  ⟨(some 2), .new 75 (.agg [(.sl none 0 0 false), (.int .u64 0), (.int .u64 0)]), none⟩,
  ⟨(some 3), .mv (.k (.c (.int .i64 0))), none⟩]
abbrev o_rotaref07_New_1 : List IOper := [⟨(some 5), .ld (some 12) (.t 1), none⟩,
  ⟨(some 6), .call (.k (.c (.fn fn_rotaref02_Check [] []))) [(.t 5)], none⟩,
  ⟨(some 4), .mv (.t 6), none⟩]
abbrev o_rotaref07_New_2 : List IOper := [⟨(some 7), .mv (.t 4), none⟩,
  ⟨(some 8), .bin .neq (.t 7) (.k (.c (.int .i64 0))), none⟩]
abbrev o_rotaref07_New_3 : List IOper := [⟨(some 9), .build [(.sl none 0 0 false), (.int .u64 0), (.int .u64 0)] [], none⟩,
  ⟨(some 10), .mv (.t 4), none⟩,
  ⟨none, .st 3 (.t 2) (.t 9), none⟩,
  ⟨(some 3), .mv (.t 10), none⟩]
abbrev o_rotaref07_New_4 : List IOper := [⟨(some 11), .fa 1 (.t 1), none⟩,
  ⟨(some 12), .ld none (.t 11), none⟩,
  ⟨(some 13), .build [(.sl none 0 0 false), (.int .u64 0), (.int .u64 0)] [(0, 1, (.t 12))], none⟩,
  ⟨none, .st 3 (.t 2) (.t 13), none⟩,
  ⟨(some 3), .mv (.k (.c (.int .i64 0))), none⟩]
def c_rotaref07_New : IC := (.seq (.ops o_rotaref07_New_0) (.seq (.ops o_rotaref07_New_1) (.seq (.seq (.ops o_rotaref07_New_2) (.cond (.t 8) (.seq (.ops o_rotaref07_New_3) .ret) .skip)) (.seq (.ops o_rotaref07_New_4) .ret))))
def i_rotaref07_New : IFn := ⟨14, c_rotaref07_New, [(2, (some (some 3))), (3, none)]⟩

-- F 41 (*rota/rotaref07.Bus).Carry: bads 0, calls [57, 58, 59]
abbrev o_rotaref07_Bus_Carry_0 : List IOper := [⟨(some 8), .mv (.k (.c (.sl none 0 0 false))), none⟩,
  ⟨(some 9), .mv (.k (.c (.sl none 0 0 false))), none⟩,
  ⟨(some 10), .mv (.k (.c (.int .i64 0))), none⟩]
abbrev o_rotaref07_Bus_Carry_1 : List IOper := [⟨(some 19), .mv (.t 1), none⟩,
  ⟨(some 20), .bin .lss (.t 19) (.k (.c (.int .i64 0))), none⟩]
abbrev o_rotaref07_Bus_Carry_2 : List IOper := [⟨(some 8), .mv (.k (.c (.sl none 0 0 false))), none⟩,
  ⟨(some 9), .mv (.k (.c (.sl none 0 0 false))), none⟩,
  ⟨(some 10), .mv (.k (.c (.int .i64 2))), none⟩]
abbrev o_rotaref07_Bus_Carry_3 : List IOper := [⟨(some 22), .mv (.t 0), none⟩,
  ⟨(some 23), .mv (.t 1), none⟩,
  ⟨(some 24), .mv (.t 2), none⟩,
  ⟨(some 25), .call (.k (.c (.fn fn_rotaref07_Bus_Pass [] []))) [(.t 22), (.t 23), (.t 24)], none⟩,
  ⟨(some 21), .mv (.t 25), none⟩,
  ⟨(some 26), .ext (.t 21) 0, none⟩,
  ⟨(some 27), .ext (.t 21) 1, none⟩,
  ⟨(some 11), .mv (.t 26), none⟩,
  ⟨(some 12), .mv (.t 27), none⟩]
abbrev o_rotaref07_Bus_Carry_4 : List IOper := [⟨(some 13), .mv (.k (.c (.sl none 0 0 false))), none⟩]
abbrev o_rotaref07_Bus_Carry_5 : List IOper := [⟨(some 14), .mv (.k (.c (.sl none 0 0 false))), none⟩]
abbrev o_rotaref07_Bus_Carry_6 : List IOper := [⟨(some 15), .mv (.k (.c (.int .i64 0))), none⟩]
abbrev o_rotaref07_Bus_Carry_7 : List IOper := [⟨(some 28), .mv (.t 15), none⟩,
  ⟨(some 29), .mv (.t 0), none⟩,
  ⟨(some 30), .nilck (.t 29), none⟩,
  ⟨(some 31), .fa 0 (.t 30), none⟩,
  ⟨(some 32), .ld none (.t 31), none⟩,
  ⟨(some 33), .len false (.t 32), none⟩,
  ⟨(some 34), .bin .lss (.t 28) (.t 33), none⟩]
abbrev o_rotaref07_Bus_Carry_8 : List IOper := [⟨(some 37), .build [(.int .i64 0), (.int .i64 0), (.int .u32 0)] [], none⟩,
  ⟨(some 16), .new 65 (.agg [(.int .i64 0), (.int .i64 0), (.int .u32 0)]), none⟩,
  ⟨none, .st 3 (.t 16) (.t 37), none⟩]
abbrev o_rotaref07_Bus_Carry_9 : List IOper := [⟨(some 38), .mv (.t 15), none⟩,
  ⟨(some 39), .mv (.t 3), none⟩,
  ⟨(some 40), .len false (.t 39), none⟩,
  ⟨(some 41), .bin .lss (.t 38) (.t 40), none⟩,
  ⟨(some 42), .mv (.t 41), none⟩,
  ⟨(some 43), .mv (.t 15), some (42, true)⟩,
  ⟨(some 44), .mv (.t 0), some (42, true)⟩,
  ⟨(some 45), .mv (.t 1), some (42, true)⟩,
  ⟨(some 46), .call (.k (.c (.fn fn_rotaref07_Bus_owner [] []))) [(.t 44), (.t 45)], some (42, true)⟩,
  ⟨(some 47), .bin .neq (.t 43) (.t 46), some (42, true)⟩,
  ⟨(some 48), .pick (.t 42) (.t 47) (.k (.c (.bool false))), none⟩]
abbrev o_rotaref07_Bus_Carry_10 : List IOper := [⟨(some 49), .mv (.t 3), none⟩,
  ⟨(some 50), .mv (.t 15), none⟩,
  ⟨(some 51), .iaS 3 (.t 49) (.t 50), none⟩,
  ⟨(some 52), .ld (some 3) (.t 51), none⟩,
  ⟨none, .st 3 (.t 16) (.t 52), none⟩]
abbrev o_rotaref07_Bus_Carry_11 : List IOper := [⟨(some 53), .mv (.t 11), none⟩,
  ⟨(some 17), .mv (.t 53), none⟩]
abbrev o_rotaref07_Bus_Carry_12 : List IOper := [⟨(some 54), .fa 0 (.t 16), none⟩,
  ⟨(some 55), .ld none (.t 54), none⟩,
  ⟨(some 56), .bin .eql (.t 55) (.k (.c (.int .i64 2))), none⟩]
abbrev o_rotaref07_Bus_Carry_13 : List IOper := [⟨(some 57), .mv (.t 11), none⟩,
  ⟨(some 58), .fa 1 (.t 16), none⟩,
  ⟨(some 59), .ld none (.t 58), none⟩,
  ⟨(some 60), .fa 2 (.t 16), none⟩,
  ⟨(some 61), .ld none (.t 60), none⟩,
  ⟨(some 62), .call (.k (.c (.fn fn_rotaref07_turned [] []))) [(.t 57), (.t 59), (.t 61)], none⟩,
  ⟨(some 17), .mv (.t 62), none⟩]
abbrev o_rotaref07_Bus_Carry_14 : List IOper := [⟨(some 63), .mv (.t 12), none⟩,
  ⟨(some 64), .mv (.t 63), none⟩,
  ⟨(some 65), .fa 0 (.t 16), some (64, true)⟩,
  ⟨(some 66), .ld none (.t 65), some (64, true)⟩,
  ⟨(some 67), .bin .neq (.t 66) (.k (.c (.int .i64 1))), some (64, true)⟩,
  ⟨(some 68), .pick (.t 64) (.t 67) (.k (.c (.bool false))), none⟩,
  ⟨(some 18), .mv (.t 68), none⟩]
abbrev o_rotaref07_Bus_Carry_15 : List IOper := [⟨(some 69), .mv (.t 18), none⟩,
  ⟨(some 70), .un .not (.t 69), none⟩]
abbrev o_rotaref07_Bus_Carry_16 : List IOper := [⟨(some 17), .mv (.k (.c (.sl none 0 0 false))), none⟩]
abbrev o_rotaref07_Bus_Carry_17 : List IOper := [⟨(some 71), .mv (.t 13), none⟩,
  ⟨(some 72), .mv (.t 17), none⟩,
  ⟨(some 73), .bsl 25 1 [(.sl none 0 0 false)] [(0, 1, (.t 72))], none⟩,
  ⟨(some 74), .app 25 1 24 (.t 71) (.t 73), none⟩,
  ⟨(some 13), .mv (.t 74), none⟩]
abbrev o_rotaref07_Bus_Carry_18 : List IOper := [⟨(some 75), .mv (.t 14), none⟩,
  ⟨(some 76), .mv (.t 18), none⟩,
  ⟨(some 77), .bsl 4 1 [(.bool false)] [(0, 1, (.t 76))], none⟩,
  ⟨(some 78), .app 4 1 1 (.t 75) (.t 77), none⟩,
  ⟨(some 14), .mv (.t 78), none⟩]
abbrev o_rotaref07_Bus_Carry_19 : List IOper := [⟨(some 35), .mv (.t 15), none⟩,
  ⟨(some 36), .bin .add (.t 35) (.k (.c (.int .i64 1))), none⟩,
  ⟨(some 15), .mv (.t 36), none⟩]
def b_rotaref07_Bus_Carry_20 : IC := (.seq (.seq (.ops o_rotaref07_Bus_Carry_7) (.cond (.t 34) .skip (.exit 0))) (.seq (.block 1 (.seq (.ops o_rotaref07_Bus_Carry_8) (.seq (.seq (.ops o_rotaref07_Bus_Carry_9) (.cond (.t 48) (.ops o_rotaref07_Bus_Carry_10) .skip)) (.seq (.ops o_rotaref07_Bus_Carry_11) (.seq (.seq (.ops o_rotaref07_Bus_Carry_12) (.cond (.t 56) (.ops o_rotaref07_Bus_Carry_13) .skip)) (.seq (.ops o_rotaref07_Bus_Carry_14) (.seq (.seq (.ops o_rotaref07_Bus_Carry_15) (.cond (.t 70) (.ops o_rotaref07_Bus_Carry_16) .skip)) (.seq (.ops o_rotaref07_Bus_Carry_17) (.ops o_rotaref07_Bus_Carry_18))))))))) (.ops o_rotaref07_Bus_Carry_19)))
abbrev o_rotaref07_Bus_Carry_21 : List IOper := [⟨(some 79), .mv (.t 13), none⟩,
  ⟨(some 80), .mv (.t 14), none⟩,
  ⟨(some 8), .mv (.t 79), none⟩,
  ⟨(some 9), .mv (.t 80), none⟩,
  ⟨(some 10), .mv (.k (.c (.int .i64 0))), none⟩]
def c_rotaref07_Bus_Carry : IC := (.seq (.ops o_rotaref07_Bus_Carry_0) (.seq (.seq (.ops o_rotaref07_Bus_Carry_1) (.cond (.t 20) (.seq (.ops o_rotaref07_Bus_Carry_2) .ret) .skip)) (.seq (.ops o_rotaref07_Bus_Carry_3) (.seq (.ops o_rotaref07_Bus_Carry_4) (.seq (.ops o_rotaref07_Bus_Carry_5) (.seq (.seq (.ops o_rotaref07_Bus_Carry_6) (.block 0 (.loop b_rotaref07_Bus_Carry_20))) (.seq (.ops o_rotaref07_Bus_Carry_21) .ret)))))))
def i_rotaref07_Bus_Carry : IFn := ⟨81, c_rotaref07_Bus_Carry, [(8, none), (9, none), (10, none)]⟩

-- F 42 (*rota/bus.Bus).Blocked: bads 0, calls [60]
abbrev o_bus_Bus_Blocked_0 : List IOper := [⟨(some 2), .mv (.k (.c (.int .u64 0))), none⟩]
abbrev o_bus_Bus_Blocked_1 : List IOper := [⟨(some 3), .mv (.t 0), none⟩,
  ⟨(some 4), .eq .ptr false (.t 3) (.k (.c (.ptr none))), none⟩]
abbrev o_bus_Bus_Blocked_2 : List IOper := [⟨(some 2), .mv (.k (.c (.int .u64 0))), none⟩]
abbrev o_bus_Bus_Blocked_3 : List IOper := [⟨(some 5), .mv (.t 0), none⟩,
  ⟨(some 6), .nilck (.t 5), none⟩,
  ⟨(some 7), .fa 1 (.t 6), none⟩,
  ⟨(some 8), .call (.k (.c (.fn fn_atomic_Uint64_Load [] []))) [(.t 7)], none⟩,
  ⟨(some 2), .mv (.t 8), none⟩]
def c_bus_Bus_Blocked : IC := (.seq (.ops o_bus_Bus_Blocked_0) (.seq (.seq (.ops o_bus_Bus_Blocked_1) (.cond (.t 4) (.seq (.ops o_bus_Bus_Blocked_2) .ret) .skip)) (.seq (.ops o_bus_Bus_Blocked_3) .ret)))
def i_bus_Bus_Blocked : IFn := ⟨9, c_bus_Bus_Blocked, [(2, none)]⟩

-- F 43 rota/frame.read: bads 0, calls [61, 61]
abbrev o_frame_read_0 : List IOper := [⟨(some 2), .new 29 (.agg (List.replicate 2 (.int .i64 0) ++ [(.int .u16 0)] ++ List.replicate 64 (.int .u8 0))), none⟩,
  ⟨(some 3), .mv (.k (.c (.bool false))), none⟩]
abbrev o_frame_read_1 : List IOper := [⟨(some 5), .mv (.t 0), none⟩,
  ⟨(some 6), .len false (.t 5), none⟩,
  ⟨(some 7), .bin .neq (.t 6) (.k (.c (.int .i64 75))), none⟩,
  ⟨(some 8), .mv (.t 7), none⟩,
  ⟨(some 9), .mv (.t 0), some (8, false)⟩,
  ⟨(some 10), .iaS 1 (.t 9) (.k (.c (.int .i64 6))), some (8, false)⟩,
  ⟨(some 11), .ld none (.t 10), some (8, false)⟩,
  ⟨(some 12), .bin .geq (.t 11) (.k (.c (.int .u8 16))), some (8, false)⟩,
  ⟨(some 13), .pick (.t 8) (.k (.c (.bool true))) (.t 12), none⟩,
  ⟨(some 14), .mv (.t 13), none⟩,
  ⟨(some 15), .mv (.t 0), some (14, false)⟩,
  ⟨(some 16), .iaS 1 (.t 15) (.k (.c (.int .i64 0))), some (14, false)⟩,
  ⟨(some 17), .ld none (.t 16), some (14, false)⟩,
  ⟨(some 18), .bin .gtr (.t 17) (.k (.c (.int .u8 127))), some (14, false)⟩,
  ⟨(some 19), .pick (.t 14) (.k (.c (.bool true))) (.t 18), none⟩]
abbrev o_frame_read_2 : List IOper := [⟨(some 20), .build (List.replicate 2 (.int .i64 0) ++ [(.int .u16 0)] ++ List.replicate 64 (.int .u8 0)) [], none⟩,
  ⟨none, .st 67 (.t 2) (.t 20), none⟩,
  ⟨(some 3), .mv (.k (.c (.bool false))), none⟩]
abbrev o_frame_read_3 : List IOper := [⟨(some 28), .mv (.t 0), none⟩,
  ⟨(some 29), .slS 1 (.t 28) (some (.k (.c (.int .i64 4)))) (some (.k (.c (.int .i64 6)))) none, none⟩,
  ⟨(some 25), .mv (.t 0), none⟩,
  ⟨(some 26), .slS 1 (.t 25) none (some (.k (.c (.int .i64 4)))) none, none⟩,
  ⟨(some 21), .mv (.t 0), none⟩,
  ⟨(some 22), .iaS 1 (.t 21) (.k (.c (.int .i64 6))), none⟩,
  ⟨(some 23), .ld none (.t 22), none⟩,
  ⟨(some 24), .cv .i64 (.t 23), none⟩,
  ⟨(some 27), .call (.k (.c (.fn fn_frame_number [] []))) [(.t 26)], none⟩,
  ⟨none, .same (some none) (.t 22) (.t 23), none⟩,
  ⟨(some 30), .call (.k (.c (.fn fn_frame_number [] []))) [(.t 29)], none⟩,
  ⟨none, .same (some none) (.t 22) (.t 23), none⟩,
  ⟨(some 31), .cv .u16 (.t 30), none⟩,
  ⟨(some 32), .build [(.int .i64 0), (.int .u16 0)] [(0, 1, (.t 27)), (1, 1, (.t 31))], none⟩,
  ⟨(some 33), .build (List.replicate 2 (.int .i64 0) ++ [(.int .u16 0)] ++ List.replicate 64 (.int .u8 0)) [(0, 1, (.t 24)), (1, 2, (.t 32))], none⟩,
  ⟨(some 4), .new 29 (.agg (List.replicate 2 (.int .i64 0) ++ [(.int .u16 0)] ++ List.replicate 64 (.int .u8 0))), none⟩,
  ⟨none, .st 67 (.t 4) (.t 33), none⟩]
abbrev o_frame_read_4 : List IOper := [⟨(some 34), .fa 3 (.t 4), none⟩,
  ⟨(some 35), .slA 64 1 (.t 34) none none none, none⟩,
  ⟨(some 36), .mv (.t 0), none⟩,
  ⟨(some 37), .slS 1 (.t 36) (some (.k (.c (.int .i64 7)))) (some (.k (.c (.int .i64 71)))) none, none⟩,
  ⟨(some 38), .cpy 1 (.t 35) (.t 37), none⟩]
abbrev o_frame_read_5 : List IOper := [⟨(some 39), .ld (some 67) (.t 4), none⟩,
  ⟨none, .st 67 (.t 2) (.t 39), none⟩,
  ⟨(some 3), .mv (.k (.c (.bool true))), none⟩]
def c_frame_read : IC := (.seq (.ops o_frame_read_0) (.seq (.seq (.ops o_frame_read_1) (.cond (.t 19) (.seq (.ops o_frame_read_2) .ret) .skip)) (.seq (.ops o_frame_read_3) (.seq (.ops o_frame_read_4) (.seq (.ops o_frame_read_5) .ret)))))
def i_frame_read : IFn := ⟨40, c_frame_read, [(2, (some (some 67))), (3, none)]⟩

-- F 44 rota/frame.checked: bads 0, calls []
abbrev o_frame_checked_0 : List IOper := [⟨(some 4), .mv (.k (.c (.bool false))), none⟩]
abbrev o_frame_checked_1 : List IOper := [⟨(some 5), .mv (.t 0), none⟩,
  ⟨(some 6), .iaS 1 (.t 5) (.k (.c (.int .i64 71))), none⟩,
  ⟨(some 7), .ld none (.t 6), none⟩,
  ⟨(some 8), .mv (.t 1), none⟩,
  ⟨(some 9), .cv .u8 (.t 8), none⟩,
  ⟨(some 10), .bin .eql (.t 7) (.t 9), none⟩,
  ⟨(some 11), .mv (.t 10), none⟩,
  ⟨(some 12), .mv (.t 0), some (11, true)⟩,
  ⟨(some 13), .iaS 1 (.t 12) (.k (.c (.int .i64 72))), some (11, true)⟩,
  ⟨(some 14), .ld none (.t 13), some (11, true)⟩,
  ⟨(some 15), .mv (.t 1), some (11, true)⟩,
  ⟨(some 16), .bin .shr (.t 15) (.k (.c (.int .u64 8))), some (11, true)⟩,
  ⟨(some 17), .cv .u8 (.t 16), some (11, true)⟩,
  ⟨(some 18), .bin .eql (.t 14) (.t 17), some (11, true)⟩,
  ⟨(some 19), .pick (.t 11) (.t 18) (.k (.c (.bool false))), none⟩,
  ⟨(some 20), .mv (.t 19), none⟩,
  ⟨(some 21), .mv (.t 0), some (20, true)⟩,
  ⟨(some 22), .iaS 1 (.t 21) (.k (.c (.int .i64 73))), some (20, true)⟩,
  ⟨(some 23), .ld none (.t 22), some (20, true)⟩,
  ⟨(some 24), .mv (.t 1), some (20, true)⟩,
  ⟨(some 25), .bin .shr (.t 24) (.k (.c (.int .u64 16))), some (20, true)⟩,
  ⟨(some 26), .cv .u8 (.t 25), some (20, true)⟩,
  ⟨(some 27), .bin .eql (.t 23) (.t 26), some (20, true)⟩,
  ⟨(some 28), .pick (.t 20) (.t 27) (.k (.c (.bool false))), none⟩,
  ⟨(some 29), .mv (.t 28), none⟩,
  ⟨(some 30), .mv (.t 0), some (29, true)⟩,
  ⟨(some 31), .iaS 1 (.t 30) (.k (.c (.int .i64 74))), some (29, true)⟩,
  ⟨(some 32), .ld none (.t 31), some (29, true)⟩,
  ⟨(some 33), .mv (.t 1), some (29, true)⟩,
  ⟨(some 34), .bin .shr (.t 33) (.k (.c (.int .u64 24))), some (29, true)⟩,
  ⟨(some 35), .cv .u8 (.t 34), some (29, true)⟩,
  ⟨(some 36), .bin .eql (.t 32) (.t 35), some (29, true)⟩,
  ⟨(some 37), .pick (.t 29) (.t 36) (.k (.c (.bool false))), none⟩,
  ⟨(some 4), .mv (.t 37), none⟩]
def c_frame_checked : IC := (.seq (.ops o_frame_checked_0) (.seq (.ops o_frame_checked_1) .ret))
def i_frame_checked : IFn := ⟨38, c_frame_checked, [(4, none)]⟩

-- F 45 rota/sum.More: bads 0, calls []
abbrev o_sum_More_0 : List IOper := [⟨(some 4), .mv (.k (.c (.int .u32 0))), none⟩]
abbrev o_sum_More_1 : List IOper := [⟨(some 8), .mv (.t 0), none⟩,
  ⟨(some 9), .un .xor (.t 8), none⟩,
  ⟨(some 5), .mv (.t 9), none⟩]
abbrev o_sum_More_2 : List IOper := [⟨(some 10), .mv (.t 1), none⟩,
  ⟨(some 11), .len false (.t 10), none⟩,
  ⟨(some 12), .mv (.k (.c (.int .i64 0))), none⟩]
abbrev o_sum_More_3 : List IOper := [⟨(some 13), .bin .lss (.t 12) (.t 11), none⟩]
abbrev o_sum_More_4 : List IOper := [⟨(some 14), .iaS 1 (.t 10) (.t 12), none⟩,
  ⟨(some 15), .ld none (.t 14), none⟩,
  ⟨(some 7), .mv (.t 15), none⟩]
abbrev o_sum_More_5 : List IOper := [⟨(some 16), .mv (.t 5), none⟩,
  ⟨(some 17), .mv (.t 7), none⟩,
  ⟨(some 18), .cv .u32 (.t 17), none⟩,
  ⟨(some 19), .bin .xor (.t 16) (.t 18), none⟩,
  ⟨(some 5), .mv (.t 19), none⟩]
abbrev o_sum_More_6 : List IOper := [⟨(some 20), .mv (.t 5), none⟩,
  ⟨(some 21), .bin .shr (.t 20) (.k (.c (.int .u64 4))), none⟩,
  ⟨(some 22), .mv (.t 5), none⟩,
  ⟨(some 23), .bin .and (.t 22) (.k (.c (.int .u32 15))), none⟩,
  ⟨(some 24), .iaA 16 1 (.k (.c (.ptr (some (0, 0))))) (.t 23), none⟩,
  ⟨(some 25), .ld none (.t 24), none⟩,
  ⟨(some 26), .bin .xor (.t 21) (.t 25), none⟩,
  ⟨(some 5), .mv (.t 26), none⟩]
abbrev o_sum_More_7 : List IOper := [⟨(some 27), .mv (.t 5), none⟩,
  ⟨(some 28), .bin .shr (.t 27) (.k (.c (.int .u64 4))), none⟩,
  ⟨(some 29), .mv (.t 5), none⟩,
  ⟨(some 30), .bin .and (.t 29) (.k (.c (.int .u32 15))), none⟩,
  ⟨(some 31), .iaA 16 1 (.k (.c (.ptr (some (0, 0))))) (.t 30), none⟩,
  ⟨(some 32), .ld none (.t 31), none⟩,
  ⟨(some 33), .bin .xor (.t 28) (.t 32), none⟩,
  ⟨(some 5), .mv (.t 33), none⟩]
abbrev o_sum_More_8 : List IOper := [⟨(some 34), .bin .add (.t 12) (.k (.c (.int .i64 1))), none⟩,
  ⟨(some 12), .mv (.t 34), none⟩]
def b_sum_More_9 : IC := (.seq (.ops o_sum_More_3) (.seq (.cond (.t 13) .skip (.exit 0)) (.seq (.block 1 (.seq (.ops o_sum_More_4) (.seq (.ops o_sum_More_5) (.seq (.ops o_sum_More_6) (.ops o_sum_More_7))))) (.ops o_sum_More_8))))
abbrev o_sum_More_10 : List IOper := [⟨(some 35), .mv (.t 5), none⟩,
  ⟨(some 36), .un .xor (.t 35), none⟩,
  ⟨(some 4), .mv (.t 36), none⟩]
def c_sum_More : IC := (.seq (.ops o_sum_More_0) (.seq (.ops o_sum_More_1) (.seq (.seq (.ops o_sum_More_2) (.block 0 (.loop b_sum_More_9))) (.seq (.ops o_sum_More_10) .ret))))
def i_sum_More : IFn := ⟨37, c_sum_More, [(4, none)]⟩

-- F 46 rota/rotaref03.told: bads 0, calls []
abbrev o_rotaref03_told_0 : List IOper := [⟨(some 2), .new 29 (.agg (List.replicate 2 (.int .i64 0) ++ [(.int .u16 0)] ++ List.replicate 64 (.int .u8 0))), none⟩,
  ⟨(some 3), .mv (.k (.c (.bool false))), none⟩]
abbrev o_rotaref03_told_1 : List IOper := [⟨(some 6), .mv (.t 0), none⟩,
  ⟨(some 7), .len false (.t 6), none⟩,
  ⟨(some 8), .bin .neq (.t 7) (.k (.c (.int .i64 75))), none⟩,
  ⟨(some 9), .mv (.t 8), none⟩,
  ⟨(some 10), .mv (.t 0), some (9, false)⟩,
  ⟨(some 11), .iaS 1 (.t 10) (.k (.c (.int .i64 6))), some (9, false)⟩,
  ⟨(some 12), .ld none (.t 11), some (9, false)⟩,
  ⟨(some 13), .bin .gtr (.t 12) (.k (.c (.int .u8 15))), some (9, false)⟩,
  ⟨(some 14), .pick (.t 9) (.k (.c (.bool true))) (.t 13), none⟩,
  ⟨(some 15), .mv (.t 14), none⟩,
  ⟨(some 16), .mv (.t 0), some (15, false)⟩,
  ⟨(some 17), .iaS 1 (.t 16) (.k (.c (.int .i64 0))), some (15, false)⟩,
  ⟨(some 18), .ld none (.t 17), some (15, false)⟩,
  ⟨(some 19), .bin .gtr (.t 18) (.k (.c (.int .u8 127))), some (15, false)⟩,
  ⟨(some 20), .pick (.t 15) (.k (.c (.bool true))) (.t 19), none⟩]
abbrev o_rotaref03_told_2 : List IOper := [⟨(some 21), .build (List.replicate 2 (.int .i64 0) ++ [(.int .u16 0)] ++ List.replicate 64 (.int .u8 0)) [], none⟩,
  ⟨none, .st 67 (.t 2) (.t 21), none⟩,
  ⟨(some 3), .mv (.k (.c (.bool false))), none⟩]
abbrev o_rotaref03_told_3 : List IOper := [⟨(some 22), .mv (.t 0), none⟩,
  ⟨(some 23), .iaS 1 (.t 22) (.k (.c (.int .i64 6))), none⟩,
  ⟨(some 24), .ld none (.t 23), none⟩,
  ⟨(some 25), .cv .i64 (.t 24), none⟩,
  ⟨(some 26), .build (List.replicate 2 (.int .i64 0) ++ [(.int .u16 0)] ++ List.replicate 64 (.int .u8 0)) [(0, 1, (.t 25))], none⟩,
  ⟨(some 4), .new 29 (.agg (List.replicate 2 (.int .i64 0) ++ [(.int .u16 0)] ++ List.replicate 64 (.int .u8 0))), none⟩,
  ⟨none, .st 67 (.t 4) (.t 26), none⟩]
abbrev o_rotaref03_told_4 : List IOper := [⟨(some 27), .mv (.t 0), none⟩,
  ⟨(some 28), .iaS 1 (.t 27) (.k (.c (.int .i64 0))), none⟩,
  ⟨(some 29), .ld none (.t 28), none⟩,
  ⟨(some 30), .cv .i64 (.t 29), none⟩,
  ⟨(some 31), .bin .mul (.t 30) (.k (.c (.int .i64 256))), none⟩,
  ⟨(some 32), .mv (.t 0), none⟩,
  ⟨(some 33), .iaS 1 (.t 32) (.k (.c (.int .i64 1))), none⟩,
  ⟨(some 34), .ld none (.t 33), none⟩,
  ⟨(some 35), .cv .i64 (.t 34), none⟩,
  ⟨(some 36), .bin .add (.t 31) (.t 35), none⟩,
  ⟨(some 37), .bin .mul (.t 36) (.k (.c (.int .i64 256))), none⟩,
  ⟨(some 38), .mv (.t 0), none⟩,
  ⟨(some 39), .iaS 1 (.t 38) (.k (.c (.int .i64 2))), none⟩,
  ⟨(some 40), .ld none (.t 39), none⟩,
  ⟨(some 41), .cv .i64 (.t 40), none⟩,
  ⟨(some 42), .bin .add (.t 37) (.t 41), none⟩,
  ⟨(some 43), .bin .mul (.t 42) (.k (.c (.int .i64 256))), none⟩,
  ⟨(some 44), .mv (.t 0), none⟩,
  ⟨(some 45), .iaS 1 (.t 44) (.k (.c (.int .i64 3))), none⟩,
  ⟨(some 46), .ld none (.t 45), none⟩,
  ⟨(some 47), .cv .i64 (.t 46), none⟩,
  ⟨(some 48), .bin .add (.t 43) (.t 47), none⟩,
  ⟨(some 49), .fa 1 (.t 4), none⟩,
  ⟨(some 50), .fa 0 (.t 49), none⟩,
  ⟨none, .st 1 (.t 50) (.t 48), none⟩]
abbrev o_rotaref03_told_5 : List IOper := [⟨(some 51), .mv (.t 0), none⟩,
  ⟨(some 52), .iaS 1 (.t 51) (.k (.c (.int .i64 4))), none⟩,
  ⟨(some 53), .ld none (.t 52), none⟩,
  ⟨(some 54), .cv .u16 (.t 53), none⟩,
  ⟨(some 55), .bin .mul (.t 54) (.k (.c (.int .u16 256))), none⟩,
  ⟨(some 56), .mv (.t 0), none⟩,
  ⟨(some 57), .iaS 1 (.t 56) (.k (.c (.int .i64 5))), none⟩,
  ⟨(some 58), .ld none (.t 57), none⟩,
  ⟨(some 59), .cv .u16 (.t 58), none⟩,
  ⟨(some 60), .bin .add (.t 55) (.t 59), none⟩,
  ⟨(some 61), .fa 1 (.t 4), none⟩,
  ⟨(some 62), .fa 1 (.t 61), none⟩,
  ⟨none, .st 1 (.t 62) (.t 60), none⟩]
abbrev o_rotaref03_told_6 : List IOper := [⟨(some 5), .mv (.k (.c (.int .i64 0))), none⟩]
abbrev o_rotaref03_told_7 : List IOper := [⟨(some 63), .mv (.t 5), none⟩,
  ⟨(some 64), .bin .lss (.t 63) (.k (.c (.int .i64 64))), none⟩]
abbrev o_rotaref03_told_8 : List IOper := [⟨(some 67), .mv (.t 5), none⟩,
  ⟨(some 68), .mv (.t 0), none⟩,
  ⟨(some 69), .mv (.t 5), none⟩,
  ⟨(some 70), .bin .add (.k (.c (.int .i64 7))) (.t 69), none⟩,
  ⟨(some 71), .iaS 1 (.t 68) (.t 70), none⟩,
  ⟨(some 72), .ld none (.t 71), none⟩,
  ⟨(some 73), .fa 3 (.t 4), none⟩,
  ⟨(some 74), .iaA 64 1 (.t 73) (.t 67), none⟩,
  ⟨none, .st 1 (.t 74) (.t 72), none⟩]
abbrev o_rotaref03_told_9 : List IOper := [⟨(some 65), .mv (.t 5), none⟩,
  ⟨(some 66), .bin .add (.t 65) (.k (.c (.int .i64 1))), none⟩,
  ⟨(some 5), .mv (.t 66), none⟩]
def b_rotaref03_told_10 : IC := (.seq (.seq (.ops o_rotaref03_told_7) (.cond (.t 64) .skip (.exit 0))) (.seq (.block 1 (.ops o_rotaref03_told_8)) (.ops o_rotaref03_told_9)))
abbrev o_rotaref03_told_11 : List IOper := [⟨(some 75), .ld (some 67) (.t 4), none⟩,
  ⟨none, .st 67 (.t 2) (.t 75), none⟩,
  ⟨(some 3), .mv (.k (.c (.bool true))), none⟩]
def c_rotaref03_told : IC := (.seq (.ops o_rotaref03_told_0) (.seq (.seq (.ops o_rotaref03_told_1) (.cond (.t 20) (.seq (.ops o_rotaref03_told_2) .ret) .skip)) (.seq (.ops o_rotaref03_told_3) (.seq (.ops o_rotaref03_told_4) (.seq (.ops o_rotaref03_told_5) (.seq (.seq (.ops o_rotaref03_told_6) (.block 0 (.loop b_rotaref03_told_10))) (.seq (.ops o_rotaref03_told_11) .ret)))))))
def i_rotaref03_told : IFn := ⟨76, c_rotaref03_told, [(2, (some (some 67))), (3, none)]⟩

-- F 47 rota/rotaref03.State: bads 0, calls []
abbrev o_rotaref03_State_0 : List IOper := [⟨(some 1), .box 24 (.t 0), none⟩,
  ⟨(some 2), .mv (.k (.c (.sl none 0 0 false))), none⟩]
abbrev o_rotaref03_State_1 : List IOper := [⟨(some 4), .fa 0 (.t 1), none⟩,
  ⟨(some 5), .ld none (.t 4), none⟩,
  ⟨(some 6), .cv .u32 (.t 5), none⟩,
  ⟨(some 3), .mv (.t 6), none⟩]
abbrev o_rotaref03_State_2 : List IOper := [⟨(some 7), .mv (.t 3), none⟩,
  ⟨(some 8), .bin .quo (.t 7) (.k (.c (.int .u32 16777216))), none⟩,
  ⟨(some 9), .cv .u8 (.t 8), none⟩,
  ⟨(some 10), .mv (.t 3), none⟩,
  ⟨(some 11), .bin .quo (.t 10) (.k (.c (.int .u32 65536))), none⟩,
  ⟨(some 12), .bin .rem (.t 11) (.k (.c (.int .u32 256))), none⟩,
  ⟨(some 13), .cv .u8 (.t 12), none⟩,
  ⟨(some 14), .mv (.t 3), none⟩,
  ⟨(some 15), .bin .quo (.t 14) (.k (.c (.int .u32 256))), none⟩,
  ⟨(some 16), .bin .rem (.t 15) (.k (.c (.int .u32 256))), none⟩,
  ⟨(some 17), .cv .u8 (.t 16), none⟩,
  ⟨(some 18), .mv (.t 3), none⟩,
  ⟨(some 19), .bin .rem (.t 18) (.k (.c (.int .u32 256))), none⟩,
  ⟨(some 20), .cv .u8 (.t 19), none⟩,
  ⟨(some 21), .fa 1 (.t 1), none⟩,
  ⟨(some 22), .ld none (.t 21), none⟩,
  ⟨(some 23), .bin .quo (.t 22) (.k (.c (.int .u16 256))), none⟩,
  ⟨(some 24), .cv .u8 (.t 23), none⟩,
  ⟨(some 25), .fa 1 (.t 1), none⟩,
  ⟨(some 26), .ld none (.t 25), none⟩,
  ⟨(some 27), .bin .rem (.t 26) (.k (.c (.int .u16 256))), none⟩,
  ⟨(some 28), .cv .u8 (.t 27), none⟩,
  ⟨(some 29), .bsl 5 6 (List.replicate 6 (.int .u8 0)) [(0, 1, (.t 9)), (1, 1, (.t 13)), (2, 1, (.t 17)), (3, 1, (.t 20)), (4, 1, (.t 24)), (5, 1, (.t 28))], none⟩,
  ⟨(some 2), .mv (.t 29), none⟩]
def c_rotaref03_State : IC := (.seq (.ops o_rotaref03_State_0) (.seq (.ops o_rotaref03_State_1) (.seq (.ops o_rotaref03_State_2) .ret)))
def i_rotaref03_State : IFn := ⟨30, c_rotaref03_State, [(2, none)]⟩

-- F 48 rota/rotaref03.sealed: bads 0, calls [62]
abbrev o_rotaref03_sealed_0 : List IOper := [⟨(some 4), .mv (.k (.c (.bool false))), none⟩]
abbrev o_rotaref03_sealed_1 : List IOper := [⟨(some 6), .mv (.t 1), none⟩,
  ⟨(some 7), .call (.k (.c (.fn fn_rotaref01_Sum [] []))) [(.t 6)], none⟩,
  ⟨(some 5), .mv (.t 7), none⟩]
abbrev o_rotaref03_sealed_2 : List IOper := [⟨(some 8), .mv (.t 0), none⟩,
  ⟨(some 9), .iaS 1 (.t 8) (.k (.c (.int .i64 71))), none⟩,
  ⟨(some 10), .ld none (.t 9), none⟩,
  ⟨(some 11), .mv (.t 5), none⟩,
  ⟨(some 12), .bin .rem (.t 11) (.k (.c (.int .u32 256))), none⟩,
  ⟨(some 13), .cv .u8 (.t 12), none⟩,
  ⟨(some 14), .bin .eql (.t 10) (.t 13), none⟩,
  ⟨(some 15), .mv (.t 14), none⟩,
  ⟨(some 16), .mv (.t 0), some (15, true)⟩,
  ⟨(some 17), .iaS 1 (.t 16) (.k (.c (.int .i64 72))), some (15, true)⟩,
  ⟨(some 18), .ld none (.t 17), some (15, true)⟩,
  ⟨(some 19), .mv (.t 5), some (15, true)⟩,
  ⟨(some 20), .bin .quo (.t 19) (.k (.c (.int .u32 256))), some (15, true)⟩,
  ⟨(some 21), .bin .rem (.t 20) (.k (.c (.int .u32 256))), some (15, true)⟩,
  ⟨(some 22), .cv .u8 (.t 21), some (15, true)⟩,
  ⟨(some 23), .bin .eql (.t 18) (.t 22), some (15, true)⟩,
  ⟨(some 24), .pick (.t 15) (.t 23) (.k (.c (.bool false))), none⟩,
  ⟨(some 25), .mv (.t 24), none⟩,
  ⟨(some 26), .mv (.t 0), some (25, true)⟩,
  ⟨(some 27), .iaS 1 (.t 26) (.k (.c (.int .i64 73))), some (25, true)⟩,
  ⟨(some 28), .ld none (.t 27), some (25, true)⟩,
  ⟨(some 29), .mv (.t 5), some (25, true)⟩,
  ⟨(some 30), .bin .quo (.t 29) (.k (.c (.int .u32 65536))), some (25, true)⟩,
  ⟨(some 31), .bin .rem (.t 30) (.k (.c (.int .u32 256))), some (25, true)⟩,
  ⟨(some 32), .cv .u8 (.t 31), some (25, true)⟩,
  ⟨(some 33), .bin .eql (.t 28) (.t 32), some (25, true)⟩,
  ⟨(some 34), .pick (.t 25) (.t 33) (.k (.c (.bool false))), none⟩,
  ⟨(some 35), .mv (.t 34), none⟩,
  ⟨(some 36), .mv (.t 0), some (35, true)⟩,
  ⟨(some 37), .iaS 1 (.t 36) (.k (.c (.int .i64 74))), some (35, true)⟩,
  ⟨(some 38), .ld none (.t 37), some (35, true)⟩,
  ⟨(some 39), .mv (.t 5), some (35, true)⟩,
  ⟨(some 40), .bin .quo (.t 39) (.k (.c (.int .u32 16777216))), some (35, true)⟩,
  ⟨(some 41), .cv .u8 (.t 40), some (35, true)⟩,
  ⟨(some 42), .bin .eql (.t 38) (.t 41), some (35, true)⟩,
  ⟨(some 43), .pick (.t 35) (.t 42) (.k (.c (.bool false))), none⟩,
  ⟨(some 4), .mv (.t 43), none⟩]
def c_rotaref03_sealed : IC := (.seq (.ops o_rotaref03_sealed_0) (.seq (.ops o_rotaref03_sealed_1) (.seq (.ops o_rotaref03_sealed_2) .ret)))
def i_rotaref03_sealed : IFn := ⟨44, c_rotaref03_sealed, [(4, none)]⟩

-- F 49 rota/config.Check: bads 0, calls [63]
abbrev o_config_Check_0 : List IOper := [⟨(some 1), .box 39 (.t 0), none⟩,
  ⟨(some 2), .mv (.k (.c (.int .i64 0))), none⟩]
abbrev o_config_Check_1 : List IOper := [⟨(some 3), .mv (.k (.c (.int .i64 21))), none⟩]
abbrev o_config_Check_2 : List IOper := [⟨(some 4), .mv (.t 3), none⟩,
  ⟨(some 5), .bin .leq (.t 4) (.k (.c (.int .i64 26))), none⟩]
abbrev o_config_Check_3 : List IOper := [⟨(some 8), .mv (.t 3), none⟩,
  ⟨(some 9), .ld (some 12) (.t 1), none⟩,
  ⟨(some 10), .call (.k (.c (.fn fn_config_fine [] []))) [(.t 8), (.t 9)], none⟩,
  ⟨(some 11), .un .not (.t 10), none⟩]
abbrev o_config_Check_4 : List IOper := [⟨(some 12), .mv (.t 3), none⟩,
  ⟨(some 2), .mv (.t 12), none⟩]
abbrev o_config_Check_5 : List IOper := [⟨(some 6), .mv (.t 3), none⟩,
  ⟨(some 7), .bin .add (.t 6) (.k (.c (.int .i64 1))), none⟩,
  ⟨(some 3), .mv (.t 7), none⟩]
def b_config_Check_6 : IC := (.seq (.seq (.ops o_config_Check_2) (.cond (.t 5) .skip (.exit 0))) (.seq (.block 1 (.seq (.ops o_config_Check_3) (.cond (.t 11) (.seq (.ops o_config_Check_4) .ret) .skip))) (.ops o_config_Check_5)))
abbrev o_config_Check_7 : List IOper := [⟨(some 2), .mv (.k (.c (.int .i64 0))), none⟩]
def c_config_Check : IC := (.seq (.ops o_config_Check_0) (.seq (.seq (.ops o_config_Check_1) (.block 0 (.loop b_config_Check_6))) (.seq (.ops o_config_Check_7) .ret)))
def i_config_Check : IFn := ⟨13, c_config_Check, [(2, none)]⟩

-- F 50 slices.Clone[[]int,int]: bads 0, calls []
abbrev o_slices_Clone_int_int_0 : List IOper := [⟨(some 2), .mv (.k (.c (.sl none 0 0 false))), none⟩]
abbrev o_slices_Clone_int_int_1 : List IOper := [⟨(some 3), .mv (.t 0), none⟩,
  ⟨(some 4), .eq .sl false (.t 3) (.k (.c (.sl none 0 0 false))), none⟩]
abbrev o_slices_Clone_int_int_2 : List IOper := [⟨(some 2), .mv (.k (.c (.sl none 0 0 false))), none⟩]
abbrev o_slices_Clone_int_int_3 : List IOper := [⟨(some 5), .bsl 3 0 [] [], none⟩,
  ⟨(some 6), .mv (.t 0), none⟩,
  ⟨(some 7), .app 3 1 8 (.t 5) (.t 6), none⟩,
  ⟨(some 2), .mv (.t 7), none⟩]
def c_slices_Clone_int_int : IC := (.seq (.ops o_slices_Clone_int_int_0) (.seq (.seq (.ops o_slices_Clone_int_int_1) (.cond (.t 4) (.seq (.ops o_slices_Clone_int_int_2) .ret) .skip)) (.seq (.ops o_slices_Clone_int_int_3) .ret)))
def i_slices_Clone_int_int : IFn := ⟨8, c_slices_Clone_int_int, [(2, none)]⟩

-- F 51 (*rota/bus.Bus).pass: bads 0, calls [53, 65, 64, 66, 66, 66]
abbrev o_bus_Bus_pass_0 : List IOper := [⟨(some 6), .mv (.k (.c (.sl none 0 0 false))), none⟩,
  ⟨(some 7), .mv (.k (.c (.bool false))), none⟩]
abbrev o_bus_Bus_pass_1 : List IOper := [⟨(some 10), .mv (.t 0), none⟩,
  ⟨(some 11), .eq .ptr false (.t 10) (.k (.c (.ptr none))), none⟩]
abbrev o_bus_Bus_pass_2 : List IOper := [⟨(some 6), .mv (.k (.c (.sl none 0 0 false))), none⟩,
  ⟨(some 7), .mv (.k (.c (.bool false))), none⟩]
abbrev o_bus_Bus_pass_3 : List IOper := [⟨(some 12), .mv (.t 0), none⟩,
  ⟨(some 13), .mv (.t 1), none⟩,
  ⟨(some 14), .call (.k (.c (.fn fn_bus_Bus_owner [] []))) [(.t 12), (.t 13)], none⟩,
  ⟨(some 8), .new 3 (.c (.int .i64 0)), none⟩,
  ⟨none, .st 1 (.t 8) (.t 14), none⟩]
abbrev o_bus_Bus_pass_4 : List IOper := [⟨(some 15), .mv (.t 2), none⟩,
  ⟨(some 16), .mkfn fn_bus_Bus_pass_1 [] [(.t 8)], none⟩,
  ⟨(some 17), .call (.k (.c (.fn fn_slices_IndexFunc_api_Send_api_Send [] []))) [(.t 15), (.t 16)], none⟩,
  ⟨(some 9), .mv (.t 17), none⟩]
abbrev o_bus_Bus_pass_5 : List IOper := [⟨(some 18), .mv (.t 9), none⟩,
  ⟨(some 19), .bin .lss (.t 18) (.k (.c (.int .i64 0))), none⟩]
abbrev o_bus_Bus_pass_6 : List IOper := [⟨(some 20), .mv (.t 0), none⟩,
  ⟨(some 21), .nilck (.t 20), none⟩,
  ⟨(some 22), .fa 1 (.t 21), none⟩,
  ⟨(some 23), .mv (.t 2), none⟩,
  ⟨(some 24), .len false (.t 23), none⟩,
  ⟨(some 25), .cv .u64 (.t 24), none⟩,
  ⟨(some 26), .call (.k (.c (.fn fn_atomic_Uint64_Add [] []))) [(.t 22), (.t 25)], none⟩]
abbrev o_bus_Bus_pass_7 : List IOper := [⟨(some 6), .mv (.k (.c (.sl none 0 0 false))), none⟩,
  ⟨(some 7), .mv (.k (.c (.bool false))), none⟩]
abbrev o_bus_Bus_pass_8 : List IOper := [⟨(some 27), .mv (.t 0), none⟩,
  ⟨(some 28), .nilck (.t 27), none⟩,
  ⟨(some 29), .fa 1 (.t 28), none⟩,
  ⟨(some 30), .mv (.t 2), none⟩,
  ⟨(some 31), .len false (.t 30), none⟩,
  ⟨(some 32), .bin .sub (.t 31) (.k (.c (.int .i64 1))), none⟩,
  ⟨(some 33), .cv .u64 (.t 32), none⟩,
  ⟨(some 34), .call (.k (.c (.fn fn_atomic_Uint64_Add [] []))) [(.t 29), (.t 33)], none⟩]
abbrev o_bus_Bus_pass_9 : List IOper := [⟨(some 35), .mv (.t 0), none⟩,
  ⟨(some 36), .nilck (.t 35), none⟩,
  ⟨(some 37), .fa 2 (.t 36), none⟩,
  ⟨(some 38), .call (.k (.c (.fn fn_atomic_Uint64_Add [] []))) [(.t 37), (.k (.c (.int .u64 1)))], none⟩]
abbrev o_bus_Bus_pass_10 : List IOper := [⟨(some 39), .mv (.t 2), none⟩,
  ⟨(some 40), .mv (.t 9), none⟩,
  ⟨(some 41), .iaS 2 (.t 39) (.t 40), none⟩,
  ⟨(some 42), .fa 1 (.t 41), none⟩,
  ⟨(some 43), .ld none (.t 42), none⟩,
  ⟨(some 6), .mv (.t 43), none⟩,
  ⟨(some 7), .mv (.k (.c (.bool true))), none⟩]
def c_bus_Bus_pass : IC := (.seq (.ops o_bus_Bus_pass_0) (.seq (.seq (.ops o_bus_Bus_pass_1) (.cond (.t 11) (.seq (.ops o_bus_Bus_pass_2) .ret) .skip)) (.seq (.ops o_bus_Bus_pass_3) (.seq (.ops o_bus_Bus_pass_4) (.seq (.seq (.ops o_bus_Bus_pass_5) (.cond (.t 19) (.seq (.ops o_bus_Bus_pass_6) (.seq (.ops o_bus_Bus_pass_7) .ret)) .skip)) (.seq (.ops o_bus_Bus_pass_8) (.seq (.ops o_bus_Bus_pass_9) (.seq (.ops o_bus_Bus_pass_10) .ret))))))))
def i_bus_Bus_pass : IFn := ⟨44, c_bus_Bus_pass, [(6, none), (7, none)]⟩

-- F 52 (*rota/bus.Bus).Carry$1: bads 0, calls []
abbrev o_bus_Bus_Carry_1_0 : List IOper := [⟨(some 1), .mv (.k (.c (.sl none 0 0 false))), none⟩]
abbrev o_bus_Bus_Carry_1_1 : List IOper := [⟨(some 2), .bsl 5 0 [] [], none⟩,
  ⟨(some 3), .ld none (.t 0), none⟩,
  ⟨(some 4), .app 5 1 1 (.t 2) (.t 3), none⟩,
  ⟨(some 1), .mv (.t 4), none⟩]
def c_bus_Bus_Carry_1 : IC := (.seq (.ops o_bus_Bus_Carry_1_0) (.seq (.ops o_bus_Bus_Carry_1_1) .ret))
def i_bus_Bus_Carry_1 : IFn := ⟨5, c_bus_Bus_Carry_1, [(1, none)]⟩

-- F 53 (*rota/bus.Bus).owner: bads 0, calls []
abbrev o_bus_Bus_owner_0 : List IOper := [⟨(some 4), .mv (.k (.c (.int .i64 0))), none⟩]
abbrev o_bus_Bus_owner_1 : List IOper := [⟨(some 5), .mv (.t 0), none⟩,
  ⟨(some 6), .eq .ptr false (.t 5) (.k (.c (.ptr none))), none⟩,
  ⟨(some 7), .mv (.t 6), none⟩,
  ⟨(some 8), .mv (.t 1), some (7, false)⟩,
  ⟨(some 9), .bin .lss (.t 8) (.k (.c (.int .i64 0))), some (7, false)⟩,
  ⟨(some 10), .pick (.t 7) (.k (.c (.bool true))) (.t 9), none⟩,
  ⟨(some 11), .mv (.t 10), none⟩,
  ⟨(some 12), .mv (.t 0), some (11, false)⟩,
  ⟨(some 13), .nilck (.t 12), some (11, false)⟩,
  ⟨(some 14), .fa 0 (.t 13), some (11, false)⟩,
  ⟨(some 15), .ld none (.t 14), some (11, false)⟩,
  ⟨(some 16), .len false (.t 15), some (11, false)⟩,
  ⟨(some 17), .bin .eql (.t 16) (.k (.c (.int .i64 0))), some (11, false)⟩,
  ⟨(some 18), .pick (.t 11) (.k (.c (.bool true))) (.t 17), none⟩]
abbrev o_bus_Bus_owner_2 : List IOper := [⟨(some 4), .mv (.k (.c (.int .i64 (-1)))), none⟩]
abbrev o_bus_Bus_owner_3 : List IOper := [⟨(some 19), .mv (.t 0), none⟩,
  ⟨(some 20), .nilck (.t 19), none⟩,
  ⟨(some 21), .fa 0 (.t 20), none⟩,
  ⟨(some 22), .ld none (.t 21), none⟩,
  ⟨(some 23), .mv (.t 1), none⟩,
  ⟨(some 24), .mv (.t 0), none⟩,
  ⟨(some 25), .nilck (.t 24), none⟩,
  ⟨(some 26), .fa 0 (.t 25), none⟩,
  ⟨(some 27), .ld none (.t 26), none⟩,
  ⟨(some 28), .len false (.t 27), none⟩,
  ⟨(some 29), .bin .rem (.t 23) (.t 28), none⟩,
  ⟨(some 30), .iaS 1 (.t 22) (.t 29), none⟩,
  ⟨(some 31), .ld none (.t 30), none⟩,
  ⟨(some 4), .mv (.t 31), none⟩]
def c_bus_Bus_owner : IC := (.seq (.ops o_bus_Bus_owner_0) (.seq (.seq (.ops o_bus_Bus_owner_1) (.cond (.t 18) (.seq (.ops o_bus_Bus_owner_2) .ret) .skip)) (.seq (.ops o_bus_Bus_owner_3) .ret)))
def i_bus_Bus_owner : IFn := ⟨32, c_bus_Bus_owner, [(4, none)]⟩

-- F 54 slices.Clone[[]byte,byte]: bads 0, calls []
abbrev o_slices_Clone_byte_byte_0 : List IOper := [⟨(some 2), .mv (.k (.c (.sl none 0 0 false))), none⟩]
abbrev o_slices_Clone_byte_byte_1 : List IOper := [⟨(some 3), .mv (.t 0), none⟩,
  ⟨(some 4), .eq .sl false (.t 3) (.k (.c (.sl none 0 0 false))), none⟩]
abbrev o_slices_Clone_byte_byte_2 : List IOper := [⟨(some 2), .mv (.k (.c (.sl none 0 0 false))), none⟩]
abbrev o_slices_Clone_byte_byte_3 : List IOper := [⟨(some 5), .bsl 5 0 [] [], none⟩,
  ⟨(some 6), .mv (.t 0), none⟩,
  ⟨(some 7), .app 5 1 1 (.t 5) (.t 6), none⟩,
  ⟨(some 2), .mv (.t 7), none⟩]
def c_slices_Clone_byte_byte : IC := (.seq (.ops o_slices_Clone_byte_byte_0) (.seq (.seq (.ops o_slices_Clone_byte_byte_1) (.cond (.t 4) (.seq (.ops o_slices_Clone_byte_byte_2) .ret) .skip)) (.seq (.ops o_slices_Clone_byte_byte_3) .ret)))
def i_slices_Clone_byte_byte : IFn := ⟨8, c_slices_Clone_byte_byte, [(2, none)]⟩

-- F 55 rota/frame.bits: bads 0, calls [67]
abbrev o_frame_bits_0 : List IOper := [⟨(some 1), .box 63 (.t 0), none⟩,
  ⟨(some 2), .mv (.k (.c .nilFn)), none⟩]
abbrev o_frame_bits_1 : List IOper := [⟨(some 3), .mkfn fn_frame_bits_1 [] [(.t 1)], none⟩,
  ⟨(some 2), .mv (.t 3), none⟩]
def c_frame_bits : IC := (.seq (.ops o_frame_bits_0) (.seq (.ops o_frame_bits_1) .ret))
def i_frame_bits : IFn := ⟨4, c_frame_bits, [(2, none)]⟩

end Go.Proofs.YtjcgdcadflplcaaDoor.AM.D21
