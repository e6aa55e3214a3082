/- The functions of these laws as the abstract machine's code, printed by a program of this claim's. -/
import Derived.Test.YtbgmbnikpjjmcaaA3
set_option linter.unusedVariables false
set_option linter.unusedSimpArgs false
set_option linter.unusedSectionVars false
namespace Go.Proofs.Ytbgmbnikpjjmcaa.AM.D07
open Go Go.Proofs.Ytbgmbnikpjjmcaa.AM
abbrev fn_rotalaw07_BusPlays : Nat := 3
abbrev fn_rotalaw07_BusNames : Nat := 4
abbrev fn_rotalaw07_BusGate : Nat := 5
abbrev fn_rotalaw07_great : Nat := 6
abbrev fn_bus_New : Nat := 7
abbrev fn_rotaref07_New : Nat := 8
abbrev fn_bus_Bus_Pass : Nat := 9
abbrev fn_rotaref07_Bus_Pass : Nat := 10
abbrev fn_rotaref07_Bytes : Nat := 11
abbrev fn_bus_Bus_Carry : Nat := 12
abbrev fn_rotaref07_Bus_Carry : Nat := 13
abbrev fn_rotalaw07_same : Nat := 14
abbrev fn_bus_Bus_Blocked : Nat := 15
abbrev fn_bus_Bus_Passed : Nat := 16
abbrev fn_rotalaw07_Four : Nat := 17
abbrev fn_rotalaw07_alive : Nat := 18
abbrev fn_config_Check : Nat := 19
abbrev fn_slices_Clone_int_int : Nat := 20
abbrev fn_rotaref02_Check : Nat := 21
abbrev fn_bus_Bus_pass : Nat := 22
abbrev fn_slices_Clone_byte_byte : Nat := 23
abbrev fn_rotaref07_Bus_owner : Nat := 24
abbrev fn_bus_Bus_Carry_1 : Nat := 25
abbrev fn_bus_Bus_owner : Nat := 26
abbrev fn_frame_Corrupt : Nat := 27
abbrev fn_rotaref07_turned : Nat := 28
abbrev fn_atomic_Uint64_Load : Nat := 29
abbrev fn_config_fine : Nat := 30
abbrev fn_rotaref02_nodes : Nat := 31
abbrev fn_rotaref02_clock : Nat := 32
abbrev fn_rotaref02_parts : Nat := 33
abbrev fn_rotaref02_windows : Nat := 34
abbrev fn_rotaref02_ports : Nat := 35
abbrev fn_rotaref02_links : Nat := 36
abbrev fn_slices_IndexFunc_api_Send_api_Send : Nat := 37
abbrev fn_bus_Bus_pass_1 : Nat := 38
abbrev fn_atomic_Uint64_Add : Nat := 39
abbrev fn_frame_bits : Nat := 40
abbrev fn_rotaref07_bit : Nat := 41
abbrev fn_atomic_LoadUint64 : Nat := 42
abbrev fn_config_nodes : Nat := 43
abbrev fn_config_clocks : Nat := 44
abbrev fn_config_parts : Nat := 45
abbrev fn_config_windows : Nat := 46
abbrev fn_config_ports : Nat := 47
abbrev fn_config_links : Nat := 48
abbrev fn_rotaref02_count : Nat := 49
abbrev fn_rotaref02_Precision : Nat := 50
abbrev fn_rotaref02_meet : Nat := 51
abbrev fn_rotaref02_Alone : Nat := 52
abbrev fn_rotaref02_is : Nat := 53
abbrev fn_atomic_AddUint64 : Nat := 54
abbrev fn_frame_bits_1 : Nat := 55
abbrev fn_config_within : Nat := 56
abbrev fn_slices_Contains_int_int : Nat := 57
abbrev fn_config_Precision : Nat := 58
abbrev fn_config_pairs : Nat := 59
abbrev fn_config_meet : Nat := 60
abbrev fn_config_port : Nat := 61
abbrev fn_slices_Index_int_int : Nat := 62
abbrev fn_config_pairs_1 : Nat := 63

-- F 3 rota/rotalaw07.BusPlays: bads 0, calls [6, 7, 8, 9, 10, 11, 12, 13, 14, 15, 16, 15]
abbrev o_rotalaw07_BusPlays_0 : List IOper := [⟨(some 2), .box 28 (.t 0), none⟩,
  ⟨(some 4), .mv (.k (.c (.bool false))), none⟩]
abbrev o_rotalaw07_BusPlays_1 : List IOper := [⟨(some 22), .mv (.t 1), none⟩,
  ⟨(some 23), .call (.k (.c (.fn fn_rotalaw07_great [] []))) [(.t 22)], none⟩]
abbrev o_rotalaw07_BusPlays_2 : List IOper := [⟨(some 4), .mv (.k (.c (.bool true))), none⟩]
abbrev o_rotalaw07_BusPlays_3 : List IOper := [⟨(some 25), .ld (some 12) (.t 2), none⟩,
  ⟨(some 26), .call (.k (.c (.fn fn_bus_New [] []))) [(.t 25)], none⟩,
  ⟨(some 24), .mv (.t 26), none⟩,
  ⟨(some 27), .ext (.t 24) 0, none⟩,
  ⟨(some 28), .ext (.t 24) 1, none⟩,
  ⟨(some 5), .mv (.t 27), none⟩,
  ⟨(some 6), .mv (.t 28), none⟩]
abbrev o_rotalaw07_BusPlays_4 : List IOper := [⟨(some 30), .ld (some 12) (.t 2), none⟩,
  ⟨(some 31), .call (.k (.c (.fn fn_rotaref07_New [] []))) [(.t 30)], none⟩,
  ⟨(some 29), .mv (.t 31), none⟩,
  ⟨(some 32), .ext (.t 29) 0, none⟩,
  ⟨(some 33), .ext (.t 29) 1, none⟩,
  ⟨(some 7), .new 37 (.agg [(.sl none 0 0 false), (.int .u64 0), (.int .u64 0)]), none⟩,
  ⟨none, .st 3 (.t 7) (.t 32), none⟩,
  ⟨(some 8), .mv (.t 33), none⟩]
abbrev o_rotalaw07_BusPlays_5 : List IOper := [⟨(some 34), .mv (.t 6), none⟩,
  ⟨(some 35), .bin .neq (.t 34) (.k (.c (.int .i64 0))), none⟩,
  ⟨(some 36), .mv (.t 35), none⟩,
  ⟨(some 37), .mv (.t 8), some (36, false)⟩,
  ⟨(some 38), .bin .neq (.t 37) (.k (.c (.int .i64 0))), some (36, false)⟩,
  ⟨(some 39), .pick (.t 36) (.k (.c (.bool true))) (.t 38), none⟩]
abbrev o_rotalaw07_BusPlays_6 : List IOper := [⟨(some 40), .mv (.t 6), none⟩,
  ⟨(some 41), .mv (.t 8), none⟩,
  ⟨(some 42), .bin .eql (.t 40) (.t 41), none⟩,
  ⟨(some 43), .mv (.t 42), none⟩,
  ⟨(some 44), .mv (.t 5), some (43, true)⟩,
  ⟨(some 45), .eq .ptr false (.t 44) (.k (.c (.ptr none))), some (43, true)⟩,
  ⟨(some 46), .pick (.t 43) (.t 45) (.k (.c (.bool false))), none⟩,
  ⟨(some 4), .mv (.t 46), none⟩]
abbrev o_rotalaw07_BusPlays_7 : List IOper := [⟨(some 9), .mv (.k (.c (.int .i64 0))), none⟩]
abbrev o_rotalaw07_BusPlays_8 : List IOper := [⟨(some 47), .mv (.t 9), none⟩,
  ⟨(some 48), .mv (.t 1), none⟩,
  ⟨(some 49), .len false (.t 48), none⟩,
  ⟨(some 50), .bin .lss (.t 47) (.t 49), none⟩]
abbrev o_rotalaw07_BusPlays_9 : List IOper := [⟨(some 53), .mv (.t 1), none⟩,
  ⟨(some 54), .mv (.t 9), none⟩,
  ⟨(some 55), .iaS 4 (.t 53) (.t 54), none⟩,
  ⟨(some 56), .ld (some 4) (.t 55), none⟩,
  ⟨(some 10), .new 43 (.agg [(.int .i64 0), (.sl none 0 0 false), (.sl none 0 0 false), (.bool false)]), none⟩,
  ⟨none, .st 4 (.t 10) (.t 56), none⟩]
abbrev o_rotalaw07_BusPlays_10 : List IOper := [⟨(some 57), .fa 3 (.t 10), none⟩,
  ⟨(some 58), .ld none (.t 57), none⟩]
abbrev o_rotalaw07_BusPlays_11 : List IOper := [⟨(some 60), .mv (.t 5), none⟩,
  ⟨(some 61), .fa 0 (.t 10), none⟩,
  ⟨(some 62), .ld none (.t 61), none⟩,
  ⟨(some 63), .fa 1 (.t 10), none⟩,
  ⟨(some 64), .ld none (.t 63), none⟩,
  ⟨(some 65), .call (.k (.c (.fn fn_bus_Bus_Pass [] []))) [(.t 60), (.t 62), (.t 64)], none⟩,
  ⟨(some 59), .mv (.t 65), none⟩,
  ⟨(some 66), .ext (.t 59) 0, none⟩,
  ⟨(some 67), .ext (.t 59) 1, none⟩,
  ⟨(some 11), .mv (.t 66), none⟩,
  ⟨(some 12), .mv (.t 67), none⟩]
abbrev o_rotalaw07_BusPlays_12 : List IOper := [⟨(some 69), .fa 0 (.t 10), none⟩,
  ⟨(some 70), .ld none (.t 69), none⟩,
  ⟨(some 71), .fa 1 (.t 10), none⟩,
  ⟨(some 72), .ld none (.t 71), none⟩,
  ⟨(some 73), .call (.k (.c (.fn fn_rotaref07_Bus_Pass [] []))) [(.t 7), (.t 70), (.t 72)], none⟩,
  ⟨(some 68), .mv (.t 73), none⟩,
  ⟨(some 74), .ext (.t 68) 0, none⟩,
  ⟨(some 75), .ext (.t 68) 1, none⟩,
  ⟨(some 13), .mv (.t 74), none⟩,
  ⟨(some 14), .mv (.t 75), none⟩]
abbrev o_rotalaw07_BusPlays_13 : List IOper := [⟨(some 76), .mv (.t 12), none⟩,
  ⟨(some 77), .mv (.t 14), none⟩,
  ⟨(some 78), .eq .bool true (.t 76) (.t 77), none⟩,
  ⟨(some 79), .mv (.t 78), none⟩,
  ⟨(some 80), .mv (.t 11), some (79, false)⟩,
  ⟨(some 81), .mv (.t 13), some (79, false)⟩,
  ⟨(some 82), .call (.k (.c (.fn fn_rotaref07_Bytes [] []))) [(.t 80), (.t 81)], some (79, false)⟩,
  ⟨(some 83), .un .not (.t 82), some (79, false)⟩,
  ⟨(some 84), .pick (.t 79) (.k (.c (.bool true))) (.t 83), none⟩]
abbrev o_rotalaw07_BusPlays_14 : List IOper := [⟨(some 4), .mv (.k (.c (.bool false))), none⟩]
abbrev o_rotalaw07_BusPlays_15 : List IOper := [⟨(some 86), .mv (.t 5), none⟩,
  ⟨(some 87), .fa 0 (.t 10), none⟩,
  ⟨(some 88), .ld none (.t 87), none⟩,
  ⟨(some 89), .fa 1 (.t 10), none⟩,
  ⟨(some 90), .ld none (.t 89), none⟩,
  ⟨(some 91), .fa 2 (.t 10), none⟩,
  ⟨(some 92), .ld none (.t 91), none⟩,
  ⟨(some 93), .call (.k (.c (.fn fn_bus_Bus_Carry [] []))) [(.t 86), (.t 88), (.t 90), (.t 92)], none⟩,
  ⟨(some 85), .mv (.t 93), none⟩,
  ⟨(some 94), .ext (.t 85) 0, none⟩,
  ⟨(some 95), .ext (.t 85) 1, none⟩,
  ⟨(some 15), .mv (.t 94), none⟩,
  ⟨(some 16), .mv (.t 95), none⟩]
abbrev o_rotalaw07_BusPlays_16 : List IOper := [⟨(some 97), .fa 0 (.t 10), none⟩,
  ⟨(some 98), .ld none (.t 97), none⟩,
  ⟨(some 99), .fa 1 (.t 10), none⟩,
  ⟨(some 100), .ld none (.t 99), none⟩,
  ⟨(some 101), .fa 2 (.t 10), none⟩,
  ⟨(some 102), .ld none (.t 101), none⟩,
  ⟨(some 103), .call (.k (.c (.fn fn_rotaref07_Bus_Carry [] []))) [(.t 7), (.t 98), (.t 100), (.t 102)], none⟩,
  ⟨(some 96), .mv (.t 103), none⟩,
  ⟨(some 104), .ext (.t 96) 0, none⟩,
  ⟨(some 105), .ext (.t 96) 1, none⟩,
  ⟨(some 106), .ext (.t 96) 2, none⟩,
  ⟨(some 17), .mv (.t 104), none⟩,
  ⟨(some 18), .mv (.t 105), none⟩,
  ⟨(some 19), .mv (.t 106), none⟩]
abbrev o_rotalaw07_BusPlays_17 : List IOper := [⟨(some 107), .mv (.t 16), none⟩,
  ⟨(some 108), .mv (.t 19), none⟩,
  ⟨(some 109), .bin .neq (.t 107) (.t 108), none⟩,
  ⟨(some 110), .mv (.t 109), none⟩,
  ⟨(some 111), .mv (.t 15), some (110, false)⟩,
  ⟨(some 112), .mv (.t 17), some (110, false)⟩,
  ⟨(some 113), .mv (.t 18), some (110, false)⟩,
  ⟨(some 114), .call (.k (.c (.fn fn_rotalaw07_same [] []))) [(.t 111), (.t 112), (.t 113)], some (110, false)⟩,
  ⟨(some 115), .un .not (.t 114), some (110, false)⟩,
  ⟨(some 116), .pick (.t 110) (.k (.c (.bool true))) (.t 115), none⟩]
abbrev o_rotalaw07_BusPlays_18 : List IOper := [⟨(some 4), .mv (.k (.c (.bool false))), none⟩]
abbrev o_rotalaw07_BusPlays_19 : List IOper := [⟨(some 20), .mv (.k (.c (.int .i64 0))), none⟩]
abbrev o_rotalaw07_BusPlays_20 : List IOper := [⟨(some 117), .mv (.t 20), none⟩,
  ⟨(some 118), .mv (.t 15), none⟩,
  ⟨(some 119), .len false (.t 118), none⟩,
  ⟨(some 120), .bin .lss (.t 117) (.t 119), none⟩]
abbrev o_rotalaw07_BusPlays_21 : List IOper := [⟨(some 21), .mv (.k (.c (.int .i64 0))), none⟩]
abbrev o_rotalaw07_BusPlays_22 : List IOper := [⟨(some 123), .mv (.t 21), none⟩,
  ⟨(some 124), .mv (.t 15), none⟩,
  ⟨(some 125), .mv (.t 20), none⟩,
  ⟨(some 126), .iaS 1 (.t 124) (.t 125), none⟩,
  ⟨(some 127), .ld none (.t 126), none⟩,
  ⟨(some 128), .len false (.t 127), none⟩,
  ⟨(some 129), .bin .lss (.t 123) (.t 128), none⟩]
abbrev o_rotalaw07_BusPlays_23 : List IOper := [⟨(some 132), .mv (.t 15), none⟩,
  ⟨(some 133), .mv (.t 20), none⟩,
  ⟨(some 134), .iaS 1 (.t 132) (.t 133), none⟩,
  ⟨(some 135), .ld none (.t 134), none⟩,
  ⟨(some 136), .mv (.t 21), none⟩,
  ⟨(some 137), .mv (.t 15), none⟩,
  ⟨(some 138), .mv (.t 20), none⟩,
  ⟨(some 139), .iaS 1 (.t 137) (.t 138), none⟩,
  ⟨(some 140), .ld none (.t 139), none⟩,
  ⟨(some 141), .mv (.t 21), none⟩,
  ⟨(some 142), .iaS 1 (.t 140) (.t 141), none⟩,
  ⟨(some 143), .ld none (.t 142), none⟩,
  ⟨(some 144), .bin .add (.t 143) (.k (.c (.int .u8 77))), none⟩,
  ⟨(some 145), .iaS 1 (.t 135) (.t 136), none⟩,
  ⟨none, .st 1 (.t 145) (.t 144), none⟩]
abbrev o_rotalaw07_BusPlays_24 : List IOper := [⟨(some 130), .mv (.t 21), none⟩,
  ⟨(some 131), .bin .add (.t 130) (.k (.c (.int .i64 1))), none⟩,
  ⟨(some 21), .mv (.t 131), none⟩]
def b_rotalaw07_BusPlays_25 : IC := (.seq (.seq (.ops o_rotalaw07_BusPlays_22) (.cond (.t 129) .skip (.exit 4))) (.seq (.block 5 (.ops o_rotalaw07_BusPlays_23)) (.ops o_rotalaw07_BusPlays_24)))
abbrev o_rotalaw07_BusPlays_26 : List IOper := [⟨(some 121), .mv (.t 20), none⟩,
  ⟨(some 122), .bin .add (.t 121) (.k (.c (.int .i64 1))), none⟩,
  ⟨(some 20), .mv (.t 122), none⟩]
def b_rotalaw07_BusPlays_27 : IC := (.seq (.seq (.ops o_rotalaw07_BusPlays_20) (.cond (.t 120) .skip (.exit 2))) (.seq (.block 3 (.seq (.ops o_rotalaw07_BusPlays_21) (.block 4 (.loop b_rotalaw07_BusPlays_25)))) (.ops o_rotalaw07_BusPlays_26)))
abbrev o_rotalaw07_BusPlays_28 : List IOper := [⟨(some 148), .fa 1 (.t 7), none⟩,
  ⟨(some 149), .ld none (.t 148), none⟩,
  ⟨(some 146), .mv (.t 5), none⟩,
  ⟨(some 147), .call (.k (.c (.fn fn_bus_Bus_Blocked [] []))) [(.t 146)], none⟩,
  ⟨none, .same (some none) (.t 148) (.t 149), none⟩,
  ⟨(some 150), .bin .neq (.t 147) (.t 149), none⟩,
  ⟨(some 151), .mv (.t 150), none⟩,
  ⟨(some 154), .fa 2 (.t 7), some (151, false)⟩,
  ⟨(some 155), .ld none (.t 154), some (151, false)⟩,
  ⟨(some 152), .mv (.t 5), some (151, false)⟩,
  ⟨(some 153), .call (.k (.c (.fn fn_bus_Bus_Passed [] []))) [(.t 152)], some (151, false)⟩,
  ⟨none, .same (some none) (.t 154) (.t 155), some (151, false)⟩,
  ⟨(some 156), .bin .neq (.t 153) (.t 155), some (151, false)⟩,
  ⟨(some 157), .pick (.t 151) (.k (.c (.bool true))) (.t 156), none⟩]
abbrev o_rotalaw07_BusPlays_29 : List IOper := [⟨(some 4), .mv (.k (.c (.bool false))), none⟩]
abbrev o_rotalaw07_BusPlays_30 : List IOper := [⟨(some 51), .mv (.t 9), none⟩,
  ⟨(some 52), .bin .add (.t 51) (.k (.c (.int .i64 1))), none⟩,
  ⟨(some 9), .mv (.t 52), none⟩]
def b_rotalaw07_BusPlays_31 : IC := (.seq (.seq (.ops o_rotalaw07_BusPlays_8) (.cond (.t 50) .skip (.exit 0))) (.seq (.block 1 (.seq (.ops o_rotalaw07_BusPlays_9) (.seq (.seq (.ops o_rotalaw07_BusPlays_10) (.cond (.t 58) (.seq (.ops o_rotalaw07_BusPlays_11) (.seq (.ops o_rotalaw07_BusPlays_12) (.seq (.ops o_rotalaw07_BusPlays_13) (.cond (.t 84) (.seq (.ops o_rotalaw07_BusPlays_14) .ret) .skip)))) (.seq (.ops o_rotalaw07_BusPlays_15) (.seq (.ops o_rotalaw07_BusPlays_16) (.seq (.seq (.ops o_rotalaw07_BusPlays_17) (.cond (.t 116) (.seq (.ops o_rotalaw07_BusPlays_18) .ret) .skip)) (.seq (.ops o_rotalaw07_BusPlays_19) (.block 2 (.loop b_rotalaw07_BusPlays_27)))))))) (.seq (.ops o_rotalaw07_BusPlays_28) (.cond (.t 157) (.seq (.ops o_rotalaw07_BusPlays_29) .ret) .skip))))) (.ops o_rotalaw07_BusPlays_30)))
abbrev o_rotalaw07_BusPlays_32 : List IOper := [⟨(some 160), .fa 1 (.t 7), none⟩,
  ⟨(some 161), .ld none (.t 160), none⟩,
  ⟨(some 158), .mv (.t 5), none⟩,
  ⟨(some 159), .call (.k (.c (.fn fn_bus_Bus_Blocked [] []))) [(.t 158)], none⟩,
  ⟨none, .same (some none) (.t 160) (.t 161), none⟩,
  ⟨(some 162), .bin .eql (.t 159) (.t 161), none⟩,
  ⟨(some 4), .mv (.t 162), none⟩]
def c_rotalaw07_BusPlays : IC := (.seq (.ops o_rotalaw07_BusPlays_0) (.seq (.seq (.ops o_rotalaw07_BusPlays_1) (.cond (.t 23) (.seq (.ops o_rotalaw07_BusPlays_2) .ret) .skip)) (.seq (.ops o_rotalaw07_BusPlays_3) (.seq (.ops o_rotalaw07_BusPlays_4) (.seq (.seq (.ops o_rotalaw07_BusPlays_5) (.cond (.t 39) (.seq (.ops o_rotalaw07_BusPlays_6) .ret) .skip)) (.seq (.seq (.ops o_rotalaw07_BusPlays_7) (.block 0 (.loop b_rotalaw07_BusPlays_31))) (.seq (.ops o_rotalaw07_BusPlays_32) .ret)))))))
def i_rotalaw07_BusPlays : IFn := ⟨163, c_rotalaw07_BusPlays, [(4, none)]⟩

-- F 4 rota/rotalaw07.BusNames: bads 0, calls [17, 7, 12, 12, 12, 12, 7, 9, 9, 12, 18, 15, 16]
abbrev o_rotalaw07_BusNames_0 : List IOper := [⟨(some 0), .mv (.k (.c (.bool false))), none⟩]
abbrev o_rotalaw07_BusNames_1 : List IOper := [⟨(some 21), .call (.k (.c (.fn fn_rotalaw07_Four [] []))) [], none⟩,
  ⟨(some 22), .call (.k (.c (.fn fn_bus_New [] []))) [(.t 21)], none⟩,
  ⟨(some 20), .mv (.t 22), none⟩,
  ⟨(some 23), .ext (.t 20) 0, none⟩,
  ⟨(some 24), .ext (.t 20) 1, none⟩,
  ⟨(some 1), .mv (.t 23), none⟩,
  ⟨(some 2), .mv (.t 24), none⟩]
abbrev o_rotalaw07_BusNames_2 : List IOper := [⟨(some 26), .mv (.t 1), none⟩,
  ⟨(some 27), .bsl 5 1 [(.int .u8 0)] [(0, 1, (.k (.c (.int .u8 128))))], none⟩,
  ⟨(some 28), .build [(.int .i64 0), (.sl none 0 0 false)] [(0, 1, (.k (.c (.int .i64 1)))), (1, 1, (.t 27))], none⟩,
  ⟨(some 29), .bsl 59 1 [(.int .i64 0), (.sl none 0 0 false)] [(0, 2, (.t 28))], none⟩,
  ⟨(some 30), .build [(.int .i64 0), (.int .i64 0), (.int .u32 0)] [(0, 1, (.k (.c (.int .i64 1))))], none⟩,
  ⟨(some 31), .build [(.int .i64 0), (.int .i64 0), (.int .u32 0)] [], none⟩,
  ⟨(some 32), .build [(.int .i64 0), (.int .i64 0), (.int .u32 0)] [(0, 1, (.k (.c (.int .i64 1))))], none⟩,
  ⟨(some 33), .build [(.int .i64 0), (.int .i64 0), (.int .u32 0)] [(0, 1, (.k (.c (.int .i64 2)))), (2, 1, (.k (.c (.int .u32 128))))], none⟩,
  ⟨(some 34), .bsl 62 4 [(.int .i64 0), (.int .i64 0), (.int .u32 0), (.int .i64 0), (.int .i64 0), (.int .u32 0), (.int .i64 0), (.int .i64 0), (.int .u32 0), (.int .i64 0), (.int .i64 0), (.int .u32 0)] [(0, 3, (.t 30)), (3, 3, (.t 31)), (6, 3, (.t 32)), (9, 3, (.t 33))], none⟩,
  ⟨(some 35), .call (.k (.c (.fn fn_bus_Bus_Carry [] []))) [(.t 26), (.k (.c (.int .i64 1))), (.t 29), (.t 34)], none⟩,
  ⟨(some 25), .mv (.t 35), none⟩,
  ⟨(some 36), .ext (.t 25) 0, none⟩,
  ⟨(some 37), .ext (.t 25) 1, none⟩,
  ⟨(some 3), .mv (.t 36), none⟩,
  ⟨(some 4), .mv (.t 37), none⟩]
abbrev o_rotalaw07_BusNames_3 : List IOper := [⟨(some 38), .mv (.t 4), none⟩,
  ⟨(some 39), .bin .eql (.t 38) (.k (.c (.int .i64 0))), none⟩,
  ⟨(some 40), .mv (.t 39), none⟩,
  ⟨(some 41), .mv (.t 3), some (40, true)⟩,
  ⟨(some 42), .len false (.t 41), some (40, true)⟩,
  ⟨(some 43), .bin .eql (.t 42) (.k (.c (.int .i64 4))), some (40, true)⟩,
  ⟨(some 44), .pick (.t 40) (.t 43) (.k (.c (.bool false))), none⟩,
  ⟨(some 45), .mv (.t 44), none⟩,
  ⟨(some 46), .mv (.t 3), some (45, true)⟩,
  ⟨(some 47), .iaS 1 (.t 46) (.k (.c (.int .i64 0))), some (45, true)⟩,
  ⟨(some 48), .ld none (.t 47), some (45, true)⟩,
  ⟨(some 49), .eq .sl false (.t 48) (.k (.c (.sl none 0 0 false))), some (45, true)⟩,
  ⟨(some 50), .pick (.t 45) (.t 49) (.k (.c (.bool false))), none⟩,
  ⟨(some 51), .mv (.t 50), none⟩,
  ⟨(some 52), .mv (.t 3), some (51, true)⟩,
  ⟨(some 53), .iaS 1 (.t 52) (.k (.c (.int .i64 1))), some (51, true)⟩,
  ⟨(some 54), .ld none (.t 53), some (51, true)⟩,
  ⟨(some 55), .len false (.t 54), some (51, true)⟩,
  ⟨(some 56), .bin .eql (.t 55) (.k (.c (.int .i64 1))), some (51, true)⟩,
  ⟨(some 57), .pick (.t 51) (.t 56) (.k (.c (.bool false))), none⟩,
  ⟨(some 58), .mv (.t 57), none⟩,
  ⟨(some 59), .mv (.t 3), some (58, true)⟩,
  ⟨(some 60), .iaS 1 (.t 59) (.k (.c (.int .i64 1))), some (58, true)⟩,
  ⟨(some 61), .ld none (.t 60), some (58, true)⟩,
  ⟨(some 62), .iaS 1 (.t 61) (.k (.c (.int .i64 0))), some (58, true)⟩,
  ⟨(some 63), .ld none (.t 62), some (58, true)⟩,
  ⟨(some 64), .bin .eql (.t 63) (.k (.c (.int .u8 128))), some (58, true)⟩,
  ⟨(some 65), .pick (.t 58) (.t 64) (.k (.c (.bool false))), none⟩,
  ⟨(some 66), .mv (.t 65), none⟩,
  ⟨(some 67), .mv (.t 3), some (66, true)⟩,
  ⟨(some 68), .iaS 1 (.t 67) (.k (.c (.int .i64 2))), some (66, true)⟩,
  ⟨(some 69), .ld none (.t 68), some (66, true)⟩,
  ⟨(some 70), .eq .sl false (.t 69) (.k (.c (.sl none 0 0 false))), some (66, true)⟩,
  ⟨(some 71), .pick (.t 66) (.t 70) (.k (.c (.bool false))), none⟩,
  ⟨(some 72), .mv (.t 71), none⟩,
  ⟨(some 73), .mv (.t 3), some (72, true)⟩,
  ⟨(some 74), .iaS 1 (.t 73) (.k (.c (.int .i64 3))), some (72, true)⟩,
  ⟨(some 75), .ld none (.t 74), some (72, true)⟩,
  ⟨(some 76), .len false (.t 75), some (72, true)⟩,
  ⟨(some 77), .bin .eql (.t 76) (.k (.c (.int .i64 1))), some (72, true)⟩,
  ⟨(some 78), .pick (.t 72) (.t 77) (.k (.c (.bool false))), none⟩,
  ⟨(some 79), .mv (.t 78), none⟩,
  ⟨(some 80), .mv (.t 3), some (79, true)⟩,
  ⟨(some 81), .iaS 1 (.t 80) (.k (.c (.int .i64 3))), some (79, true)⟩,
  ⟨(some 82), .ld none (.t 81), some (79, true)⟩,
  ⟨(some 83), .iaS 1 (.t 82) (.k (.c (.int .i64 0))), some (79, true)⟩,
  ⟨(some 84), .ld none (.t 83), some (79, true)⟩,
  ⟨(some 85), .bin .eql (.t 84) (.k (.c (.int .u8 0))), some (79, true)⟩,
  ⟨(some 86), .pick (.t 79) (.t 85) (.k (.c (.bool false))), none⟩,
  ⟨(some 5), .mv (.t 86), none⟩]
abbrev o_rotalaw07_BusNames_4 : List IOper := [⟨(some 88), .mv (.t 1), none⟩,
  ⟨(some 89), .call (.k (.c (.fn fn_bus_Bus_Carry [] []))) [(.t 88), (.k (.c (.int .i64 (-1)))), (.k (.c (.sl none 0 0 false))), (.k (.c (.sl none 0 0 false)))], none⟩,
  ⟨(some 87), .mv (.t 89), none⟩,
  ⟨(some 90), .ext (.t 87) 0, none⟩,
  ⟨(some 91), .ext (.t 87) 1, none⟩,
  ⟨(some 6), .mv (.t 90), none⟩,
  ⟨(some 7), .mv (.t 91), none⟩]
abbrev o_rotalaw07_BusNames_5 : List IOper := [⟨(some 93), .mv (.t 1), none⟩,
  ⟨(some 94), .build [(.int .i64 0), (.sl none 0 0 false)] [(0, 1, (.k (.c (.int .i64 2))))], none⟩,
  ⟨(some 95), .bsl 59 1 [(.int .i64 0), (.sl none 0 0 false)] [(0, 2, (.t 94))], none⟩,
  ⟨(some 96), .call (.k (.c (.fn fn_bus_Bus_Carry [] []))) [(.t 93), (.k (.c (.int .i64 2))), (.t 95), (.k (.c (.sl none 0 0 false)))], none⟩,
  ⟨(some 92), .mv (.t 96), none⟩,
  ⟨(some 97), .ext (.t 92) 0, none⟩,
  ⟨(some 98), .ext (.t 92) 1, none⟩,
  ⟨(some 8), .mv (.t 97), none⟩,
  ⟨(some 9), .mv (.t 98), none⟩]
abbrev o_rotalaw07_BusNames_6 : List IOper := [⟨(some 100), .mv (.t 1), none⟩,
  ⟨(some 101), .call (.k (.c (.fn fn_bus_Bus_Carry [] []))) [(.t 100), (.k (.c (.int .i64 2))), (.k (.c (.sl none 0 0 false))), (.k (.c (.sl none 0 0 false)))], none⟩,
  ⟨(some 99), .mv (.t 101), none⟩,
  ⟨(some 102), .ext (.t 99) 0, none⟩,
  ⟨(some 103), .ext (.t 99) 1, none⟩,
  ⟨(some 10), .mv (.t 102), none⟩,
  ⟨(some 11), .mv (.t 103), none⟩]
abbrev o_rotalaw07_BusNames_7 : List IOper := [⟨(some 105), .build ([(.int .i64 0)] ++ [(.sl none 0 0 false)] ++ List.replicate 6 (.int .i64 0) ++ List.replicate 4 (.sl none 0 0 false)) [], none⟩,
  ⟨(some 106), .call (.k (.c (.fn fn_bus_New [] []))) [(.t 105)], none⟩,
  ⟨(some 104), .mv (.t 106), none⟩,
  ⟨(some 107), .ext (.t 104) 0, none⟩,
  ⟨(some 108), .ext (.t 104) 1, none⟩,
  ⟨(some 12), .mv (.t 107), none⟩,
  ⟨(some 13), .mv (.t 108), none⟩]
abbrev o_rotalaw07_BusNames_8 : List IOper := [⟨(some 110), .mv (.t 1), none⟩,
  ⟨(some 111), .build [(.int .i64 0), (.sl none 0 0 false)] [], none⟩,
  ⟨(some 112), .bsl 59 1 [(.int .i64 0), (.sl none 0 0 false)] [(0, 2, (.t 111))], none⟩,
  ⟨(some 113), .call (.k (.c (.fn fn_bus_Bus_Pass [] []))) [(.t 110), (.k (.c (.int .i64 (-1)))), (.t 112)], none⟩,
  ⟨(some 109), .mv (.t 113), none⟩,
  ⟨(some 114), .ext (.t 109) 0, none⟩,
  ⟨(some 115), .ext (.t 109) 1, none⟩,
  ⟨(some 14), .mv (.t 114), none⟩,
  ⟨(some 15), .mv (.t 115), none⟩]
abbrev o_rotalaw07_BusNames_9 : List IOper := [⟨(some 116), .mv (.t 7), none⟩,
  ⟨(some 117), .bin .eql (.t 116) (.k (.c (.int .i64 2))), none⟩,
  ⟨(some 118), .mv (.t 117), none⟩,
  ⟨(some 119), .mv (.t 9), some (118, true)⟩,
  ⟨(some 120), .bin .eql (.t 119) (.k (.c (.int .i64 0))), some (118, true)⟩,
  ⟨(some 121), .pick (.t 118) (.t 120) (.k (.c (.bool false))), none⟩,
  ⟨(some 122), .mv (.t 121), none⟩,
  ⟨(some 123), .mv (.t 8), some (122, true)⟩,
  ⟨(some 124), .len false (.t 123), some (122, true)⟩,
  ⟨(some 125), .bin .eql (.t 124) (.k (.c (.int .i64 4))), some (122, true)⟩,
  ⟨(some 126), .pick (.t 122) (.t 125) (.k (.c (.bool false))), none⟩,
  ⟨(some 127), .mv (.t 126), none⟩,
  ⟨(some 128), .mv (.t 8), some (127, true)⟩,
  ⟨(some 129), .iaS 1 (.t 128) (.k (.c (.int .i64 0))), some (127, true)⟩,
  ⟨(some 130), .ld none (.t 129), some (127, true)⟩,
  ⟨(some 131), .eq .sl true (.t 130) (.k (.c (.sl none 0 0 false))), some (127, true)⟩,
  ⟨(some 132), .pick (.t 127) (.t 131) (.k (.c (.bool false))), none⟩,
  ⟨(some 133), .mv (.t 132), none⟩,
  ⟨(some 134), .mv (.t 8), some (133, true)⟩,
  ⟨(some 135), .iaS 1 (.t 134) (.k (.c (.int .i64 0))), some (133, true)⟩,
  ⟨(some 136), .ld none (.t 135), some (133, true)⟩,
  ⟨(some 137), .len false (.t 136), some (133, true)⟩,
  ⟨(some 138), .bin .eql (.t 137) (.k (.c (.int .i64 0))), some (133, true)⟩,
  ⟨(some 139), .pick (.t 133) (.t 138) (.k (.c (.bool false))), none⟩,
  ⟨(some 140), .mv (.t 139), none⟩,
  ⟨(some 141), .mv (.t 11), some (140, true)⟩,
  ⟨(some 142), .bin .eql (.t 141) (.k (.c (.int .i64 0))), some (140, true)⟩,
  ⟨(some 143), .pick (.t 140) (.t 142) (.k (.c (.bool false))), none⟩,
  ⟨(some 144), .mv (.t 143), none⟩,
  ⟨(some 145), .mv (.t 10), some (144, true)⟩,
  ⟨(some 146), .len false (.t 145), some (144, true)⟩,
  ⟨(some 147), .bin .eql (.t 146) (.k (.c (.int .i64 4))), some (144, true)⟩,
  ⟨(some 148), .pick (.t 144) (.t 147) (.k (.c (.bool false))), none⟩,
  ⟨(some 149), .mv (.t 148), none⟩,
  ⟨(some 150), .mv (.t 10), some (149, true)⟩,
  ⟨(some 151), .iaS 1 (.t 150) (.k (.c (.int .i64 2))), some (149, true)⟩,
  ⟨(some 152), .ld none (.t 151), some (149, true)⟩,
  ⟨(some 153), .eq .sl false (.t 152) (.k (.c (.sl none 0 0 false))), some (149, true)⟩,
  ⟨(some 154), .pick (.t 149) (.t 153) (.k (.c (.bool false))), none⟩,
  ⟨(some 155), .mv (.t 154), none⟩,
  ⟨(some 156), .mv (.t 13), some (155, true)⟩,
  ⟨(some 157), .bin .eql (.t 156) (.k (.c (.int .i64 21))), some (155, true)⟩,
  ⟨(some 158), .pick (.t 155) (.t 157) (.k (.c (.bool false))), none⟩,
  ⟨(some 159), .mv (.t 158), none⟩,
  ⟨(some 160), .mv (.t 15), some (159, true)⟩,
  ⟨(some 161), .un .not (.t 160), some (159, true)⟩,
  ⟨(some 162), .pick (.t 159) (.t 161) (.k (.c (.bool false))), none⟩,
  ⟨(some 16), .mv (.t 162), none⟩]
abbrev o_rotalaw07_BusNames_10 : List IOper := [⟨(some 17), .mv (.k (.c (.ptr none))), none⟩]
abbrev o_rotalaw07_BusNames_11 : List IOper := [⟨(some 164), .mv (.t 17), none⟩,
  ⟨(some 165), .build [(.int .i64 0), (.sl none 0 0 false)] [], none⟩,
  ⟨(some 166), .bsl 59 1 [(.int .i64 0), (.sl none 0 0 false)] [(0, 2, (.t 165))], none⟩,
  ⟨(some 167), .call (.k (.c (.fn fn_bus_Bus_Pass [] []))) [(.t 164), (.k (.c (.int .i64 0))), (.t 166)], none⟩,
  ⟨(some 163), .mv (.t 167), none⟩,
  ⟨(some 168), .ext (.t 163) 0, none⟩,
  ⟨(some 169), .ext (.t 163) 1, none⟩,
  ⟨(some 15), .mv (.t 169), none⟩]
abbrev o_rotalaw07_BusNames_12 : List IOper := [⟨(some 171), .mv (.t 17), none⟩,
  ⟨(some 172), .call (.k (.c (.fn fn_bus_Bus_Carry [] []))) [(.t 171), (.k (.c (.int .i64 0))), (.k (.c (.sl none 0 0 false))), (.k (.c (.sl none 0 0 false)))], none⟩,
  ⟨(some 170), .mv (.t 172), none⟩,
  ⟨(some 173), .ext (.t 170) 0, none⟩,
  ⟨(some 174), .ext (.t 170) 1, none⟩,
  ⟨(some 18), .mv (.t 173), none⟩,
  ⟨(some 19), .mv (.t 174), none⟩]
abbrev o_rotalaw07_BusNames_13 : List IOper := [⟨(some 175), .mv (.k (.c (.bool true))), none⟩,
  ⟨(some 176), .call (.k (.c (.fn fn_rotalaw07_alive [] []))) [], some (175, true)⟩,
  ⟨(some 177), .pick (.t 175) (.t 176) (.k (.c (.bool false))), none⟩,
  ⟨(some 178), .mv (.t 177), none⟩,
  ⟨(some 179), .mv (.t 5), some (178, true)⟩,
  ⟨(some 180), .pick (.t 178) (.t 179) (.k (.c (.bool false))), none⟩,
  ⟨(some 181), .mv (.t 180), none⟩,
  ⟨(some 182), .mv (.t 16), some (181, true)⟩,
  ⟨(some 183), .pick (.t 181) (.t 182) (.k (.c (.bool false))), none⟩,
  ⟨(some 184), .mv (.t 183), none⟩,
  ⟨(some 185), .mv (.t 15), some (184, true)⟩,
  ⟨(some 186), .un .not (.t 185), some (184, true)⟩,
  ⟨(some 187), .pick (.t 184) (.t 186) (.k (.c (.bool false))), none⟩,
  ⟨(some 188), .mv (.t 187), none⟩,
  ⟨(some 189), .mv (.t 19), some (188, true)⟩,
  ⟨(some 190), .bin .eql (.t 189) (.k (.c (.int .i64 1))), some (188, true)⟩,
  ⟨(some 191), .pick (.t 188) (.t 190) (.k (.c (.bool false))), none⟩,
  ⟨(some 192), .mv (.t 191), none⟩,
  ⟨(some 193), .mv (.t 17), some (192, true)⟩,
  ⟨(some 194), .call (.k (.c (.fn fn_bus_Bus_Blocked [] []))) [(.t 193)], some (192, true)⟩,
  ⟨(some 195), .bin .eql (.t 194) (.k (.c (.int .u64 0))), some (192, true)⟩,
  ⟨(some 196), .pick (.t 192) (.t 195) (.k (.c (.bool false))), none⟩,
  ⟨(some 197), .mv (.t 196), none⟩,
  ⟨(some 198), .mv (.t 17), some (197, true)⟩,
  ⟨(some 199), .call (.k (.c (.fn fn_bus_Bus_Passed [] []))) [(.t 198)], some (197, true)⟩,
  ⟨(some 200), .bin .eql (.t 199) (.k (.c (.int .u64 0))), some (197, true)⟩,
  ⟨(some 201), .pick (.t 197) (.t 200) (.k (.c (.bool false))), none⟩,
  ⟨(some 0), .mv (.t 201), none⟩]
def c_rotalaw07_BusNames : IC := (.seq (.ops o_rotalaw07_BusNames_0) (.seq (.ops o_rotalaw07_BusNames_1) (.seq (.ops o_rotalaw07_BusNames_2) (.seq (.ops o_rotalaw07_BusNames_3) (.seq (.ops o_rotalaw07_BusNames_4) (.seq (.ops o_rotalaw07_BusNames_5) (.seq (.ops o_rotalaw07_BusNames_6) (.seq (.ops o_rotalaw07_BusNames_7) (.seq (.ops o_rotalaw07_BusNames_8) (.seq (.ops o_rotalaw07_BusNames_9) (.seq (.ops o_rotalaw07_BusNames_10) (.seq (.ops o_rotalaw07_BusNames_11) (.seq (.ops o_rotalaw07_BusNames_12) (.seq (.ops o_rotalaw07_BusNames_13) .ret))))))))))))))
def i_rotalaw07_BusNames : IFn := ⟨202, c_rotalaw07_BusNames, [(0, none)]⟩

-- F 5 rota/rotalaw07.BusGate: bads 0, calls [18, 7, 6, 12, 12, 11, 16, 15]
abbrev o_rotalaw07_BusGate_0 : List IOper := [⟨(some 3), .box 28 (.t 0), none⟩,
  ⟨(some 4), .box 43 (.t 1), none⟩,
  ⟨(some 6), .mv (.k (.c (.bool false))), none⟩]
abbrev o_rotalaw07_BusGate_1 : List IOper := [⟨(some 19), .call (.k (.c (.fn fn_rotalaw07_alive [] []))) [], none⟩,
  ⟨(some 7), .mv (.t 19), none⟩]
abbrev o_rotalaw07_BusGate_2 : List IOper := [⟨(some 21), .ld (some 12) (.t 3), none⟩,
  ⟨(some 22), .call (.k (.c (.fn fn_bus_New [] []))) [(.t 21)], none⟩,
  ⟨(some 20), .mv (.t 22), none⟩,
  ⟨(some 23), .ext (.t 20) 0, none⟩,
  ⟨(some 24), .ext (.t 20) 1, none⟩,
  ⟨(some 8), .mv (.t 23), none⟩,
  ⟨(some 9), .mv (.t 24), none⟩]
abbrev o_rotalaw07_BusGate_3 : List IOper := [⟨(some 25), .ld (some 4) (.t 4), none⟩,
  ⟨(some 26), .bsl 43 1 [(.int .i64 0), (.sl none 0 0 false), (.sl none 0 0 false), (.bool false)] [(0, 4, (.t 25))], none⟩,
  ⟨(some 27), .call (.k (.c (.fn fn_rotalaw07_great [] []))) [(.t 26)], none⟩,
  ⟨(some 28), .mv (.t 27), none⟩,
  ⟨(some 29), .mv (.t 2), some (28, false)⟩,
  ⟨(some 30), .len false (.t 29), some (28, false)⟩,
  ⟨(some 31), .bin .gtr (.t 30) (.k (.c (.int .i64 5000))), some (28, false)⟩,
  ⟨(some 32), .pick (.t 28) (.k (.c (.bool true))) (.t 31), none⟩,
  ⟨(some 33), .mv (.t 32), none⟩,
  ⟨(some 34), .mv (.t 9), some (33, false)⟩,
  ⟨(some 35), .bin .neq (.t 34) (.k (.c (.int .i64 0))), some (33, false)⟩,
  ⟨(some 36), .pick (.t 33) (.k (.c (.bool true))) (.t 35), none⟩,
  ⟨(some 37), .mv (.t 36), none⟩,
  ⟨(some 38), .fa 0 (.t 4), some (37, false)⟩,
  ⟨(some 39), .ld none (.t 38), some (37, false)⟩,
  ⟨(some 40), .bin .lss (.t 39) (.k (.c (.int .i64 0))), some (37, false)⟩,
  ⟨(some 41), .pick (.t 37) (.k (.c (.bool true))) (.t 40), none⟩,
  ⟨(some 42), .mv (.t 41), none⟩,
  ⟨(some 43), .mv (.t 7), some (42, false)⟩,
  ⟨(some 44), .un .not (.t 43), some (42, false)⟩,
  ⟨(some 45), .pick (.t 42) (.k (.c (.bool true))) (.t 44), none⟩]
abbrev o_rotalaw07_BusGate_4 : List IOper := [⟨(some 46), .mv (.t 7), none⟩,
  ⟨(some 6), .mv (.t 46), none⟩]
abbrev o_rotalaw07_BusGate_5 : List IOper := [⟨(some 47), .fa 1 (.t 3), none⟩,
  ⟨(some 48), .ld none (.t 47), none⟩,
  ⟨(some 49), .fa 0 (.t 4), none⟩,
  ⟨(some 50), .ld none (.t 49), none⟩,
  ⟨(some 51), .fa 1 (.t 3), none⟩,
  ⟨(some 52), .ld none (.t 51), none⟩,
  ⟨(some 53), .len false (.t 52), none⟩,
  ⟨(some 54), .bin .rem (.t 50) (.t 53), none⟩,
  ⟨(some 55), .iaS 1 (.t 48) (.t 54), none⟩,
  ⟨(some 56), .ld none (.t 55), none⟩,
  ⟨(some 10), .mv (.t 56), none⟩]
abbrev o_rotalaw07_BusGate_6 : List IOper := [⟨(some 57), .mv (.t 10), none⟩,
  ⟨(some 58), .mv (.t 2), none⟩,
  ⟨(some 59), .build [(.int .i64 0), (.sl none 0 0 false)] [(0, 1, (.t 57)), (1, 1, (.t 58))], none⟩,
  ⟨(some 11), .new 59 (.agg [(.int .i64 0), (.sl none 0 0 false)]), none⟩,
  ⟨none, .st 2 (.t 11) (.t 59), none⟩]
abbrev o_rotalaw07_BusGate_7 : List IOper := [⟨(some 12), .mv (.k (.c (.sl none 0 0 false))), none⟩]
abbrev o_rotalaw07_BusGate_8 : List IOper := [⟨(some 13), .mv (.k (.c (.int .i64 0))), none⟩]
abbrev o_rotalaw07_BusGate_9 : List IOper := [⟨(some 60), .mv (.t 13), none⟩,
  ⟨(some 61), .fa 1 (.t 4), none⟩,
  ⟨(some 62), .ld none (.t 61), none⟩,
  ⟨(some 63), .len false (.t 62), none⟩,
  ⟨(some 64), .bin .lss (.t 60) (.t 63), none⟩]
abbrev o_rotalaw07_BusGate_10 : List IOper := [⟨(some 67), .fa 1 (.t 4), none⟩,
  ⟨(some 68), .ld none (.t 67), none⟩,
  ⟨(some 69), .mv (.t 13), none⟩,
  ⟨(some 70), .iaS 2 (.t 68) (.t 69), none⟩,
  ⟨(some 71), .fa 0 (.t 70), none⟩,
  ⟨(some 72), .ld none (.t 71), none⟩,
  ⟨(some 73), .mv (.t 10), none⟩,
  ⟨(some 74), .bin .neq (.t 72) (.t 73), none⟩]
abbrev o_rotalaw07_BusGate_11 : List IOper := [⟨(some 75), .mv (.t 12), none⟩,
  ⟨(some 76), .fa 1 (.t 4), none⟩,
  ⟨(some 77), .ld none (.t 76), none⟩,
  ⟨(some 78), .mv (.t 13), none⟩,
  ⟨(some 79), .iaS 2 (.t 77) (.t 78), none⟩,
  ⟨(some 80), .ld (some 2) (.t 79), none⟩,
  ⟨(some 81), .bsl 59 1 [(.int .i64 0), (.sl none 0 0 false)] [(0, 2, (.t 80))], none⟩,
  ⟨(some 82), .app 59 2 32 (.t 75) (.t 81), none⟩,
  ⟨(some 12), .mv (.t 82), none⟩]
abbrev o_rotalaw07_BusGate_12 : List IOper := [⟨(some 83), .mv (.t 13), none⟩,
  ⟨(some 84), .bin .eql (.t 83) (.k (.c (.int .i64 0))), none⟩]
abbrev o_rotalaw07_BusGate_13 : List IOper := [⟨(some 85), .mv (.t 12), none⟩,
  ⟨(some 86), .ld (some 2) (.t 11), none⟩,
  ⟨(some 87), .bsl 59 1 [(.int .i64 0), (.sl none 0 0 false)] [(0, 2, (.t 86))], none⟩,
  ⟨(some 88), .app 59 2 32 (.t 85) (.t 87), none⟩,
  ⟨(some 12), .mv (.t 88), none⟩]
abbrev o_rotalaw07_BusGate_14 : List IOper := [⟨(some 65), .mv (.t 13), none⟩,
  ⟨(some 66), .bin .add (.t 65) (.k (.c (.int .i64 1))), none⟩,
  ⟨(some 13), .mv (.t 66), none⟩]
def b_rotalaw07_BusGate_15 : IC := (.seq (.seq (.ops o_rotalaw07_BusGate_9) (.cond (.t 64) .skip (.exit 0))) (.seq (.block 1 (.seq (.seq (.ops o_rotalaw07_BusGate_10) (.cond (.t 74) (.ops o_rotalaw07_BusGate_11) .skip)) (.seq (.ops o_rotalaw07_BusGate_12) (.cond (.t 84) (.ops o_rotalaw07_BusGate_13) .skip)))) (.ops o_rotalaw07_BusGate_14)))
abbrev o_rotalaw07_BusGate_16 : List IOper := [⟨(some 89), .fa 1 (.t 4), none⟩,
  ⟨(some 90), .ld none (.t 89), none⟩,
  ⟨(some 91), .len false (.t 90), none⟩,
  ⟨(some 92), .bin .eql (.t 91) (.k (.c (.int .i64 0))), none⟩]
abbrev o_rotalaw07_BusGate_17 : List IOper := [⟨(some 93), .mv (.t 12), none⟩,
  ⟨(some 94), .ld (some 2) (.t 11), none⟩,
  ⟨(some 95), .bsl 59 1 [(.int .i64 0), (.sl none 0 0 false)] [(0, 2, (.t 94))], none⟩,
  ⟨(some 96), .app 59 2 32 (.t 93) (.t 95), none⟩,
  ⟨(some 12), .mv (.t 96), none⟩]
abbrev o_rotalaw07_BusGate_18 : List IOper := [⟨(some 98), .mv (.t 8), none⟩,
  ⟨(some 99), .fa 0 (.t 4), none⟩,
  ⟨(some 100), .ld none (.t 99), none⟩,
  ⟨(some 101), .mv (.t 12), none⟩,
  ⟨(some 102), .fa 2 (.t 4), none⟩,
  ⟨(some 103), .ld none (.t 102), none⟩,
  ⟨(some 104), .call (.k (.c (.fn fn_bus_Bus_Carry [] []))) [(.t 98), (.t 100), (.t 101), (.t 103)], none⟩,
  ⟨(some 97), .mv (.t 104), none⟩,
  ⟨(some 105), .ext (.t 97) 0, none⟩,
  ⟨(some 106), .ext (.t 97) 1, none⟩,
  ⟨(some 14), .mv (.t 105), none⟩,
  ⟨(some 15), .mv (.t 106), none⟩]
abbrev o_rotalaw07_BusGate_19 : List IOper := [⟨(some 108), .mv (.t 8), none⟩,
  ⟨(some 109), .fa 0 (.t 4), none⟩,
  ⟨(some 110), .ld none (.t 109), none⟩,
  ⟨(some 111), .ld (some 2) (.t 11), none⟩,
  ⟨(some 112), .bsl 59 1 [(.int .i64 0), (.sl none 0 0 false)] [(0, 2, (.t 111))], none⟩,
  ⟨(some 113), .fa 2 (.t 4), none⟩,
  ⟨(some 114), .ld none (.t 113), none⟩,
  ⟨(some 115), .call (.k (.c (.fn fn_bus_Bus_Carry [] []))) [(.t 108), (.t 110), (.t 112), (.t 114)], none⟩,
  ⟨(some 107), .mv (.t 115), none⟩,
  ⟨(some 116), .ext (.t 107) 0, none⟩,
  ⟨(some 117), .ext (.t 107) 1, none⟩,
  ⟨(some 16), .mv (.t 116), none⟩,
  ⟨(some 17), .mv (.t 117), none⟩]
abbrev o_rotalaw07_BusGate_20 : List IOper := [⟨(some 118), .mv (.t 15), none⟩,
  ⟨(some 119), .bin .neq (.t 118) (.k (.c (.int .i64 0))), none⟩,
  ⟨(some 120), .mv (.t 119), none⟩,
  ⟨(some 121), .mv (.t 17), some (120, false)⟩,
  ⟨(some 122), .bin .neq (.t 121) (.k (.c (.int .i64 0))), some (120, false)⟩,
  ⟨(some 123), .pick (.t 120) (.k (.c (.bool true))) (.t 122), none⟩,
  ⟨(some 124), .mv (.t 123), none⟩,
  ⟨(some 125), .mv (.t 14), some (124, false)⟩,
  ⟨(some 126), .len false (.t 125), some (124, false)⟩,
  ⟨(some 127), .mv (.t 16), some (124, false)⟩,
  ⟨(some 128), .len false (.t 127), some (124, false)⟩,
  ⟨(some 129), .bin .neq (.t 126) (.t 128), some (124, false)⟩,
  ⟨(some 130), .pick (.t 124) (.k (.c (.bool true))) (.t 129), none⟩]
abbrev o_rotalaw07_BusGate_21 : List IOper := [⟨(some 6), .mv (.k (.c (.bool false))), none⟩]
abbrev o_rotalaw07_BusGate_22 : List IOper := [⟨(some 18), .mv (.k (.c (.int .i64 0))), none⟩]
abbrev o_rotalaw07_BusGate_23 : List IOper := [⟨(some 131), .mv (.t 18), none⟩,
  ⟨(some 132), .mv (.t 14), none⟩,
  ⟨(some 133), .len false (.t 132), none⟩,
  ⟨(some 134), .bin .lss (.t 131) (.t 133), none⟩]
abbrev o_rotalaw07_BusGate_24 : List IOper := [⟨(some 137), .mv (.t 14), none⟩,
  ⟨(some 138), .mv (.t 18), none⟩,
  ⟨(some 139), .iaS 1 (.t 137) (.t 138), none⟩,
  ⟨(some 140), .ld none (.t 139), none⟩,
  ⟨(some 141), .mv (.t 16), none⟩,
  ⟨(some 142), .mv (.t 18), none⟩,
  ⟨(some 143), .iaS 1 (.t 141) (.t 142), none⟩,
  ⟨(some 144), .ld none (.t 143), none⟩,
  ⟨(some 145), .call (.k (.c (.fn fn_rotaref07_Bytes [] []))) [(.t 140), (.t 144)], none⟩,
  ⟨(some 146), .un .not (.t 145), none⟩,
  ⟨(some 147), .mv (.t 146), none⟩,
  ⟨(some 148), .mv (.t 14), some (147, false)⟩,
  ⟨(some 149), .mv (.t 18), some (147, false)⟩,
  ⟨(some 150), .iaS 1 (.t 148) (.t 149), some (147, false)⟩,
  ⟨(some 151), .ld none (.t 150), some (147, false)⟩,
  ⟨(some 152), .eq .sl false (.t 151) (.k (.c (.sl none 0 0 false))), some (147, false)⟩,
  ⟨(some 153), .mv (.t 16), some (147, false)⟩,
  ⟨(some 154), .mv (.t 18), some (147, false)⟩,
  ⟨(some 155), .iaS 1 (.t 153) (.t 154), some (147, false)⟩,
  ⟨(some 156), .ld none (.t 155), some (147, false)⟩,
  ⟨(some 157), .eq .sl false (.t 156) (.k (.c (.sl none 0 0 false))), some (147, false)⟩,
  ⟨(some 158), .eq .bool true (.t 152) (.t 157), some (147, false)⟩,
  ⟨(some 159), .pick (.t 147) (.k (.c (.bool true))) (.t 158), none⟩]
abbrev o_rotalaw07_BusGate_25 : List IOper := [⟨(some 6), .mv (.k (.c (.bool false))), none⟩]
abbrev o_rotalaw07_BusGate_26 : List IOper := [⟨(some 135), .mv (.t 18), none⟩,
  ⟨(some 136), .bin .add (.t 135) (.k (.c (.int .i64 1))), none⟩,
  ⟨(some 18), .mv (.t 136), none⟩]
def b_rotalaw07_BusGate_27 : IC := (.seq (.seq (.ops o_rotalaw07_BusGate_23) (.cond (.t 134) .skip (.exit 2))) (.seq (.block 3 (.seq (.ops o_rotalaw07_BusGate_24) (.cond (.t 159) (.seq (.ops o_rotalaw07_BusGate_25) .ret) .skip))) (.ops o_rotalaw07_BusGate_26)))
abbrev o_rotalaw07_BusGate_28 : List IOper := [⟨(some 160), .mv (.t 7), none⟩,
  ⟨(some 161), .mv (.t 160), none⟩,
  ⟨(some 162), .mv (.t 8), some (161, true)⟩,
  ⟨(some 163), .call (.k (.c (.fn fn_bus_Bus_Passed [] []))) [(.t 162)], some (161, true)⟩,
  ⟨(some 164), .bin .eql (.t 163) (.k (.c (.int .u64 2))), some (161, true)⟩,
  ⟨(some 165), .pick (.t 161) (.t 164) (.k (.c (.bool false))), none⟩,
  ⟨(some 166), .mv (.t 165), none⟩,
  ⟨(some 167), .mv (.t 8), some (166, true)⟩,
  ⟨(some 168), .call (.k (.c (.fn fn_bus_Bus_Blocked [] []))) [(.t 167)], some (166, true)⟩,
  ⟨(some 169), .mv (.t 12), some (166, true)⟩,
  ⟨(some 170), .len false (.t 169), some (166, true)⟩,
  ⟨(some 171), .bin .sub (.t 170) (.k (.c (.int .i64 1))), some (166, true)⟩,
  ⟨(some 172), .cv .u64 (.t 171), some (166, true)⟩,
  ⟨(some 173), .bin .eql (.t 168) (.t 172), some (166, true)⟩,
  ⟨(some 174), .pick (.t 166) (.t 173) (.k (.c (.bool false))), none⟩,
  ⟨(some 6), .mv (.t 174), none⟩]
def c_rotalaw07_BusGate : IC := (.seq (.ops o_rotalaw07_BusGate_0) (.seq (.ops o_rotalaw07_BusGate_1) (.seq (.ops o_rotalaw07_BusGate_2) (.seq (.seq (.ops o_rotalaw07_BusGate_3) (.cond (.t 45) (.seq (.ops o_rotalaw07_BusGate_4) .ret) .skip)) (.seq (.ops o_rotalaw07_BusGate_5) (.seq (.ops o_rotalaw07_BusGate_6) (.seq (.ops o_rotalaw07_BusGate_7) (.seq (.seq (.ops o_rotalaw07_BusGate_8) (.block 0 (.loop b_rotalaw07_BusGate_15))) (.seq (.seq (.ops o_rotalaw07_BusGate_16) (.cond (.t 92) (.ops o_rotalaw07_BusGate_17) .skip)) (.seq (.ops o_rotalaw07_BusGate_18) (.seq (.ops o_rotalaw07_BusGate_19) (.seq (.seq (.ops o_rotalaw07_BusGate_20) (.cond (.t 130) (.seq (.ops o_rotalaw07_BusGate_21) .ret) .skip)) (.seq (.seq (.ops o_rotalaw07_BusGate_22) (.block 2 (.loop b_rotalaw07_BusGate_27))) (.seq (.ops o_rotalaw07_BusGate_28) .ret))))))))))))))
def i_rotalaw07_BusGate : IFn := ⟨175, c_rotalaw07_BusGate, [(6, none)]⟩

-- F 6 rota/rotalaw07.great: bads 0, calls []
abbrev o_rotalaw07_great_0 : List IOper := [⟨(some 2), .mv (.k (.c (.bool false))), none⟩]
abbrev o_rotalaw07_great_1 : List IOper := [⟨(some 3), .mv (.k (.c (.int .i64 0))), none⟩]
abbrev o_rotalaw07_great_2 : List IOper := [⟨(some 4), .mv (.k (.c (.int .i64 0))), none⟩]
abbrev o_rotalaw07_great_3 : List IOper := [⟨(some 6), .mv (.t 4), none⟩,
  ⟨(some 7), .mv (.t 0), none⟩,
  ⟨(some 8), .len false (.t 7), none⟩,
  ⟨(some 9), .bin .lss (.t 6) (.t 8), none⟩]
abbrev o_rotalaw07_great_4 : List IOper := [⟨(some 12), .mv (.t 3), none⟩,
  ⟨(some 13), .bin .add (.t 12) (.k (.c (.int .i64 1))), none⟩,
  ⟨(some 14), .mv (.t 0), none⟩,
  ⟨(some 15), .mv (.t 4), none⟩,
  ⟨(some 16), .iaS 4 (.t 14) (.t 15), none⟩,
  ⟨(some 17), .fa 2 (.t 16), none⟩,
  ⟨(some 18), .ld none (.t 17), none⟩,
  ⟨(some 19), .len false (.t 18), none⟩,
  ⟨(some 20), .bin .add (.t 13) (.t 19), none⟩,
  ⟨(some 3), .mv (.t 20), none⟩]
abbrev o_rotalaw07_great_5 : List IOper := [⟨(some 5), .mv (.k (.c (.int .i64 0))), none⟩]
abbrev o_rotalaw07_great_6 : List IOper := [⟨(some 21), .mv (.t 5), none⟩,
  ⟨(some 22), .mv (.t 0), none⟩,
  ⟨(some 23), .mv (.t 4), none⟩,
  ⟨(some 24), .iaS 4 (.t 22) (.t 23), none⟩,
  ⟨(some 25), .fa 1 (.t 24), none⟩,
  ⟨(some 26), .ld none (.t 25), none⟩,
  ⟨(some 27), .len false (.t 26), none⟩,
  ⟨(some 28), .bin .lss (.t 21) (.t 27), none⟩]
abbrev o_rotalaw07_great_7 : List IOper := [⟨(some 31), .mv (.t 3), none⟩,
  ⟨(some 32), .bin .add (.t 31) (.k (.c (.int .i64 1))), none⟩,
  ⟨(some 33), .mv (.t 0), none⟩,
  ⟨(some 34), .mv (.t 4), none⟩,
  ⟨(some 35), .iaS 4 (.t 33) (.t 34), none⟩,
  ⟨(some 36), .fa 1 (.t 35), none⟩,
  ⟨(some 37), .ld none (.t 36), none⟩,
  ⟨(some 38), .mv (.t 5), none⟩,
  ⟨(some 39), .iaS 2 (.t 37) (.t 38), none⟩,
  ⟨(some 40), .fa 1 (.t 39), none⟩,
  ⟨(some 41), .ld none (.t 40), none⟩,
  ⟨(some 42), .len false (.t 41), none⟩,
  ⟨(some 43), .bin .add (.t 32) (.t 42), none⟩,
  ⟨(some 3), .mv (.t 43), none⟩]
abbrev o_rotalaw07_great_8 : List IOper := [⟨(some 29), .mv (.t 5), none⟩,
  ⟨(some 30), .bin .add (.t 29) (.k (.c (.int .i64 1))), none⟩,
  ⟨(some 5), .mv (.t 30), none⟩]
def b_rotalaw07_great_9 : IC := (.seq (.seq (.ops o_rotalaw07_great_6) (.cond (.t 28) .skip (.exit 2))) (.seq (.block 3 (.ops o_rotalaw07_great_7)) (.ops o_rotalaw07_great_8)))
abbrev o_rotalaw07_great_10 : List IOper := [⟨(some 10), .mv (.t 4), none⟩,
  ⟨(some 11), .bin .add (.t 10) (.k (.c (.int .i64 1))), none⟩,
  ⟨(some 4), .mv (.t 11), none⟩]
def b_rotalaw07_great_11 : IC := (.seq (.seq (.ops o_rotalaw07_great_3) (.cond (.t 9) .skip (.exit 0))) (.seq (.block 1 (.seq (.ops o_rotalaw07_great_4) (.seq (.ops o_rotalaw07_great_5) (.block 2 (.loop b_rotalaw07_great_9))))) (.ops o_rotalaw07_great_10)))
abbrev o_rotalaw07_great_12 : List IOper := [⟨(some 44), .mv (.t 3), none⟩,
  ⟨(some 45), .bin .gtr (.t 44) (.k (.c (.int .i64 5000))), none⟩,
  ⟨(some 2), .mv (.t 45), none⟩]
def c_rotalaw07_great : IC := (.seq (.ops o_rotalaw07_great_0) (.seq (.ops o_rotalaw07_great_1) (.seq (.seq (.ops o_rotalaw07_great_2) (.block 0 (.loop b_rotalaw07_great_11))) (.seq (.ops o_rotalaw07_great_12) .ret))))
def i_rotalaw07_great : IFn := ⟨46, c_rotalaw07_great, [(2, none)]⟩

-- F 7 rota/bus.New: bads 0, calls [19, 20]
abbrev o_bus_New_0 : List IOper := [⟨(some 1), .box 28 (.t 0), none⟩,
  ⟨(some 2), .mv (.k (.c (.ptr none))), none⟩,
  ⟨(some 3), .mv (.k (.c (.int .i64 0))), none⟩]
abbrev o_bus_New_1 : List IOper := [⟨(some 5), .ld (some 12) (.t 1), none⟩,
  ⟨(some 6), .call (.k (.c (.fn fn_config_Check [] []))) [(.t 5)], none⟩,
  ⟨(some 4), .mv (.t 6), none⟩]
abbrev o_bus_New_2 : List IOper := [⟨(some 7), .mv (.t 4), none⟩,
  ⟨(some 8), .bin .neq (.t 7) (.k (.c (.int .i64 0))), none⟩]
abbrev o_bus_New_3 : List IOper := [⟨(some 9), .mv (.t 4), none⟩,
  ⟨(some 2), .mv (.k (.c (.ptr none))), none⟩,
  ⟨(some 3), .mv (.t 9), none⟩]
abbrev o_bus_New_4 : List IOper := [⟨(some 10), .fa 1 (.t 1), none⟩,
  ⟨(some 11), .ld none (.t 10), none⟩,
  ⟨(some 12), .call (.k (.c (.fn fn_slices_Clone_int_int [] []))) [(.t 11)], none⟩,
  ⟨(some 13), .build [(.sl none 0 0 false), (.int .u64 0), (.int .u64 0)] [(0, 1, (.t 12))], none⟩,
  ⟨(some 14), .box 73 (.t 13), none⟩,
  ⟨(some 2), .mv (.t 14), none⟩,
  ⟨(some 3), .mv (.k (.c (.int .i64 0))), none⟩]
def c_bus_New : IC := (.seq (.ops o_bus_New_0) (.seq (.seq (.ops o_bus_New_1) (.seq (.ops o_bus_New_2) (.cond (.t 8) (.seq (.ops o_bus_New_3) .ret) .skip))) (.seq (.ops o_bus_New_4) .ret)))
def i_bus_New : IFn := ⟨15, c_bus_New, [(2, none), (3, none)]⟩

-- F 8 rota/rotaref07.New: bads 0, calls [21]
abbrev o_rotaref07_New_0 : List IOper := [⟨(some 1), .box 28 (.t 0), none⟩,
  ⟨(some 2), .new 37 (.agg [(.sl none 0 0 false), (.int .u64 0), (.int .u64 0)]), none⟩,
  ⟨(some 3), .mv (.k (.c (.int .i64 0))), none⟩]
abbrev o_rotaref07_New_1 : List IOper := [⟨(some 5), .ld (some 12) (.t 1), none⟩,
  ⟨(some 6), .call (.k (.c (.fn fn_rotaref02_Check [] []))) [(.t 5)], none⟩,
  ⟨(some 4), .mv (.t 6), none⟩]
abbrev o_rotaref07_New_2 : List IOper := [⟨(some 7), .mv (.t 4), none⟩,
  ⟨(some 8), .bin .neq (.t 7) (.k (.c (.int .i64 0))), none⟩]
abbrev o_rotaref07_New_3 : List IOper := [⟨(some 9), .build [(.sl none 0 0 false), (.int .u64 0), (.int .u64 0)] [], none⟩,
  ⟨(some 10), .mv (.t 4), none⟩,
  ⟨none, .st 3 (.t 2) (.t 9), none⟩,
  ⟨(some 3), .mv (.t 10), none⟩]
abbrev o_rotaref07_New_4 : List IOper := [⟨(some 11), .fa 1 (.t 1), none⟩,
  ⟨(some 12), .ld none (.t 11), none⟩,
  ⟨(some 13), .build [(.sl none 0 0 false), (.int .u64 0), (.int .u64 0)] [(0, 1, (.t 12))], none⟩,
  ⟨none, .st 3 (.t 2) (.t 13), none⟩,
  ⟨(some 3), .mv (.k (.c (.int .i64 0))), none⟩]
def c_rotaref07_New : IC := (.seq (.ops o_rotaref07_New_0) (.seq (.ops o_rotaref07_New_1) (.seq (.seq (.ops o_rotaref07_New_2) (.cond (.t 8) (.seq (.ops o_rotaref07_New_3) .ret) .skip)) (.seq (.ops o_rotaref07_New_4) .ret))))
def i_rotaref07_New : IFn := ⟨14, c_rotaref07_New, [(2, (some (some 3))), (3, none)]⟩

-- F 9 (*rota/bus.Bus).Pass: bads 0, calls [22, 23]
abbrev o_bus_Bus_Pass_0 : List IOper := [⟨(some 6), .mv (.k (.c (.sl none 0 0 false))), none⟩,
  ⟨(some 7), .mv (.k (.c (.bool false))), none⟩]
abbrev o_bus_Bus_Pass_1 : List IOper := [⟨(some 11), .mv (.t 0), none⟩,
  ⟨(some 12), .mv (.t 1), none⟩,
  ⟨(some 13), .mv (.t 2), none⟩,
  ⟨(some 14), .call (.k (.c (.fn fn_bus_Bus_pass [] []))) [(.t 11), (.t 12), (.t 13)], none⟩,
  ⟨(some 10), .mv (.t 14), none⟩,
  ⟨(some 15), .ext (.t 10) 0, none⟩,
  ⟨(some 16), .ext (.t 10) 1, none⟩,
  ⟨(some 8), .mv (.t 15), none⟩,
  ⟨(some 9), .mv (.t 16), none⟩]
abbrev o_bus_Bus_Pass_2 : List IOper := [⟨(some 17), .mv (.t 8), none⟩,
  ⟨(some 18), .call (.k (.c (.fn fn_slices_Clone_byte_byte [] []))) [(.t 17)], none⟩,
  ⟨(some 19), .mv (.t 9), none⟩,
  ⟨(some 6), .mv (.t 18), none⟩,
  ⟨(some 7), .mv (.t 19), none⟩]
def c_bus_Bus_Pass : IC := (.seq (.ops o_bus_Bus_Pass_0) (.seq (.ops o_bus_Bus_Pass_1) (.seq (.ops o_bus_Bus_Pass_2) .ret)))
def i_bus_Bus_Pass : IFn := ⟨20, c_bus_Bus_Pass, [(6, none), (7, none)]⟩

-- F 10 (*rota/rotaref07.Bus).Pass: bads 0, calls [24]
abbrev o_rotaref07_Bus_Pass_0 : List IOper := [⟨(some 6), .mv (.k (.c (.sl none 0 0 false))), none⟩,
  ⟨(some 7), .mv (.k (.c (.bool false))), none⟩]
abbrev o_rotaref07_Bus_Pass_1 : List IOper := [⟨(some 10), .mv (.t 0), none⟩,
  ⟨(some 11), .mv (.t 1), none⟩,
  ⟨(some 12), .call (.k (.c (.fn fn_rotaref07_Bus_owner [] []))) [(.t 10), (.t 11)], none⟩,
  ⟨(some 8), .mv (.t 12), none⟩]
abbrev o_rotaref07_Bus_Pass_2 : List IOper := [⟨(some 9), .mv (.k (.c (.int .i64 0))), none⟩]
abbrev o_rotaref07_Bus_Pass_3 : List IOper := [⟨(some 13), .mv (.t 9), none⟩,
  ⟨(some 14), .mv (.t 2), none⟩,
  ⟨(some 15), .len false (.t 14), none⟩,
  ⟨(some 16), .bin .lss (.t 13) (.t 15), none⟩]
abbrev o_rotaref07_Bus_Pass_4 : List IOper := [⟨(some 19), .mv (.t 8), none⟩,
  ⟨(some 20), .bin .geq (.t 19) (.k (.c (.int .i64 0))), none⟩,
  ⟨(some 21), .mv (.t 20), none⟩,
  ⟨(some 22), .mv (.t 2), some (21, true)⟩,
  ⟨(some 23), .mv (.t 9), some (21, true)⟩,
  ⟨(some 24), .iaS 2 (.t 22) (.t 23), some (21, true)⟩,
  ⟨(some 25), .fa 0 (.t 24), some (21, true)⟩,
  ⟨(some 26), .ld none (.t 25), some (21, true)⟩,
  ⟨(some 27), .mv (.t 8), some (21, true)⟩,
  ⟨(some 28), .bin .eql (.t 26) (.t 27), some (21, true)⟩,
  ⟨(some 29), .pick (.t 21) (.t 28) (.k (.c (.bool false))), none⟩]
abbrev o_rotaref07_Bus_Pass_5 : List IOper := [⟨(some 30), .mv (.t 0), none⟩,
  ⟨(some 31), .nilck (.t 30), none⟩,
  ⟨(some 32), .fa 2 (.t 31), none⟩,
  ⟨(some 33), .ld none (.t 32), none⟩,
  ⟨(some 34), .bin .add (.t 33) (.k (.c (.int .u64 1))), none⟩,
  ⟨(some 35), .nilck (.t 30), none⟩,
  ⟨(some 36), .fa 2 (.t 35), none⟩,
  ⟨none, .st 1 (.t 36) (.t 34), none⟩]
abbrev o_rotaref07_Bus_Pass_6 : List IOper := [⟨(some 37), .mv (.t 0), none⟩,
  ⟨(some 38), .mv (.t 0), none⟩,
  ⟨(some 39), .nilck (.t 38), none⟩,
  ⟨(some 40), .fa 1 (.t 39), none⟩,
  ⟨(some 41), .ld none (.t 40), none⟩,
  ⟨(some 42), .mv (.t 2), none⟩,
  ⟨(some 43), .len false (.t 42), none⟩,
  ⟨(some 44), .bin .sub (.t 43) (.k (.c (.int .i64 1))), none⟩,
  ⟨(some 45), .cv .u64 (.t 44), none⟩,
  ⟨(some 46), .bin .add (.t 41) (.t 45), none⟩,
  ⟨(some 47), .nilck (.t 37), none⟩,
  ⟨(some 48), .fa 1 (.t 47), none⟩,
  ⟨none, .st 1 (.t 48) (.t 46), none⟩]
abbrev o_rotaref07_Bus_Pass_7 : List IOper := [⟨(some 49), .mv (.t 2), none⟩,
  ⟨(some 50), .mv (.t 9), none⟩,
  ⟨(some 51), .iaS 2 (.t 49) (.t 50), none⟩,
  ⟨(some 52), .fa 1 (.t 51), none⟩,
  ⟨(some 53), .ld none (.t 52), none⟩,
  ⟨(some 6), .mv (.t 53), none⟩,
  ⟨(some 7), .mv (.k (.c (.bool true))), none⟩]
abbrev o_rotaref07_Bus_Pass_8 : List IOper := [⟨(some 17), .mv (.t 9), none⟩,
  ⟨(some 18), .bin .add (.t 17) (.k (.c (.int .i64 1))), none⟩,
  ⟨(some 9), .mv (.t 18), none⟩]
def b_rotaref07_Bus_Pass_9 : IC := (.seq (.seq (.ops o_rotaref07_Bus_Pass_3) (.cond (.t 16) .skip (.exit 0))) (.seq (.block 1 (.seq (.ops o_rotaref07_Bus_Pass_4) (.cond (.t 29) (.seq (.ops o_rotaref07_Bus_Pass_5) (.seq (.ops o_rotaref07_Bus_Pass_6) (.seq (.ops o_rotaref07_Bus_Pass_7) .ret))) .skip))) (.ops o_rotaref07_Bus_Pass_8)))
abbrev o_rotaref07_Bus_Pass_10 : List IOper := [⟨(some 54), .mv (.t 0), none⟩,
  ⟨(some 55), .mv (.t 0), none⟩,
  ⟨(some 56), .nilck (.t 55), none⟩,
  ⟨(some 57), .fa 1 (.t 56), none⟩,
  ⟨(some 58), .ld none (.t 57), none⟩,
  ⟨(some 59), .mv (.t 2), none⟩,
  ⟨(some 60), .len false (.t 59), none⟩,
  ⟨(some 61), .cv .u64 (.t 60), none⟩,
  ⟨(some 62), .bin .add (.t 58) (.t 61), none⟩,
  ⟨(some 63), .nilck (.t 54), none⟩,
  ⟨(some 64), .fa 1 (.t 63), none⟩,
  ⟨none, .st 1 (.t 64) (.t 62), none⟩]
abbrev o_rotaref07_Bus_Pass_11 : List IOper := [⟨(some 6), .mv (.k (.c (.sl none 0 0 false))), none⟩,
  ⟨(some 7), .mv (.k (.c (.bool false))), none⟩]
def c_rotaref07_Bus_Pass : IC := (.seq (.ops o_rotaref07_Bus_Pass_0) (.seq (.ops o_rotaref07_Bus_Pass_1) (.seq (.seq (.ops o_rotaref07_Bus_Pass_2) (.block 0 (.loop b_rotaref07_Bus_Pass_9))) (.seq (.ops o_rotaref07_Bus_Pass_10) (.seq (.ops o_rotaref07_Bus_Pass_11) .ret)))))
def i_rotaref07_Bus_Pass : IFn := ⟨65, c_rotaref07_Bus_Pass, [(6, none), (7, none)]⟩

-- F 11 rota/rotaref07.Bytes: bads 0, calls []
abbrev o_rotaref07_Bytes_0 : List IOper := [⟨(some 4), .mv (.k (.c (.bool false))), none⟩]
abbrev o_rotaref07_Bytes_1 : List IOper := [⟨(some 6), .mv (.t 0), none⟩,
  ⟨(some 7), .len false (.t 6), none⟩,
  ⟨(some 8), .mv (.t 1), none⟩,
  ⟨(some 9), .len false (.t 8), none⟩,
  ⟨(some 10), .bin .neq (.t 7) (.t 9), none⟩]
abbrev o_rotaref07_Bytes_2 : List IOper := [⟨(some 4), .mv (.k (.c (.bool false))), none⟩]
abbrev o_rotaref07_Bytes_3 : List IOper := [⟨(some 5), .mv (.k (.c (.int .i64 0))), none⟩]
abbrev o_rotaref07_Bytes_4 : List IOper := [⟨(some 11), .mv (.t 5), none⟩,
  ⟨(some 12), .mv (.t 0), none⟩,
  ⟨(some 13), .len false (.t 12), none⟩,
  ⟨(some 14), .bin .lss (.t 11) (.t 13), none⟩]
abbrev o_rotaref07_Bytes_5 : List IOper := [⟨(some 17), .mv (.t 0), none⟩,
  ⟨(some 18), .mv (.t 5), none⟩,
  ⟨(some 19), .iaS 1 (.t 17) (.t 18), none⟩,
  ⟨(some 20), .ld none (.t 19), none⟩,
  ⟨(some 21), .mv (.t 1), none⟩,
  ⟨(some 22), .mv (.t 5), none⟩,
  ⟨(some 23), .iaS 1 (.t 21) (.t 22), none⟩,
  ⟨(some 24), .ld none (.t 23), none⟩,
  ⟨(some 25), .bin .neq (.t 20) (.t 24), none⟩]
abbrev o_rotaref07_Bytes_6 : List IOper := [⟨(some 4), .mv (.k (.c (.bool false))), none⟩]
abbrev o_rotaref07_Bytes_7 : List IOper := [⟨(some 15), .mv (.t 5), none⟩,
  ⟨(some 16), .bin .add (.t 15) (.k (.c (.int .i64 1))), none⟩,
  ⟨(some 5), .mv (.t 16), none⟩]
def b_rotaref07_Bytes_8 : IC := (.seq (.seq (.ops o_rotaref07_Bytes_4) (.cond (.t 14) .skip (.exit 0))) (.seq (.block 1 (.seq (.ops o_rotaref07_Bytes_5) (.cond (.t 25) (.seq (.ops o_rotaref07_Bytes_6) .ret) .skip))) (.ops o_rotaref07_Bytes_7)))
abbrev o_rotaref07_Bytes_9 : List IOper := [⟨(some 4), .mv (.k (.c (.bool true))), none⟩]
def c_rotaref07_Bytes : IC := (.seq (.ops o_rotaref07_Bytes_0) (.seq (.seq (.ops o_rotaref07_Bytes_1) (.cond (.t 10) (.seq (.ops o_rotaref07_Bytes_2) .ret) .skip)) (.seq (.seq (.ops o_rotaref07_Bytes_3) (.block 0 (.loop b_rotaref07_Bytes_8))) (.seq (.ops o_rotaref07_Bytes_9) .ret))))
def i_rotaref07_Bytes : IFn := ⟨26, c_rotaref07_Bytes, [(4, none)]⟩

-- F 12 (*rota/bus.Bus).Carry: bads 0, calls [22, 25, 26, 27]
abbrev o_bus_Bus_Carry_0 : List IOper := [⟨(some 8), .mv (.k (.c (.sl none 0 0 false))), none⟩,
  ⟨(some 9), .mv (.k (.c (.int .i64 0))), none⟩]
abbrev o_bus_Bus_Carry_1 : List IOper := [⟨(some 17), .mv (.t 0), none⟩,
  ⟨(some 18), .eq .ptr false (.t 17) (.k (.c (.ptr none))), none⟩,
  ⟨(some 16), .mv (.t 18), none⟩]
abbrev o_bus_Bus_Carry_2 : List IOper := [⟨(some 8), .mv (.k (.c (.sl none 0 0 false))), none⟩,
  ⟨(some 9), .mv (.k (.c (.int .i64 1))), none⟩]
abbrev o_bus_Bus_Carry_3 : List IOper := [⟨(some 20), .mv (.t 1), none⟩,
  ⟨(some 21), .bin .lss (.t 20) (.k (.c (.int .i64 0))), none⟩,
  ⟨(some 19), .mv (.t 21), none⟩]
abbrev o_bus_Bus_Carry_4 : List IOper := [⟨(some 8), .mv (.k (.c (.sl none 0 0 false))), none⟩,
  ⟨(some 9), .mv (.k (.c (.int .i64 2))), none⟩]
abbrev o_bus_Bus_Carry_5 : List IOper := [⟨(some 22), .mv (.t 0), none⟩,
  ⟨(some 23), .nilck (.t 22), none⟩,
  ⟨(some 24), .fa 0 (.t 23), none⟩,
  ⟨(some 25), .ld none (.t 24), none⟩,
  ⟨(some 26), .len false (.t 25), none⟩,
  ⟨(some 27), .mksl 44 1 24 [(.sl none 0 0 false)] (.t 26) (.t 26), none⟩,
  ⟨(some 10), .mv (.t 27), none⟩]
abbrev o_bus_Bus_Carry_6 : List IOper := [⟨(some 29), .mv (.t 0), none⟩,
  ⟨(some 30), .mv (.t 1), none⟩,
  ⟨(some 31), .mv (.t 2), none⟩,
  ⟨(some 32), .call (.k (.c (.fn fn_bus_Bus_pass [] []))) [(.t 29), (.t 30), (.t 31)], none⟩,
  ⟨(some 28), .mv (.t 32), none⟩,
  ⟨(some 33), .ext (.t 28) 0, none⟩,
  ⟨(some 34), .ext (.t 28) 1, none⟩,
  ⟨(some 11), .new 44 (.c (.sl none 0 0 false)), none⟩,
  ⟨none, .st 1 (.t 11) (.t 33), none⟩,
  ⟨(some 12), .mv (.t 34), none⟩]
abbrev o_bus_Bus_Carry_7 : List IOper := [⟨(some 35), .mv (.t 12), none⟩,
  ⟨(some 36), .un .not (.t 35), none⟩]
abbrev o_bus_Bus_Carry_8 : List IOper := [⟨(some 37), .mv (.t 10), none⟩,
  ⟨(some 8), .mv (.t 37), none⟩,
  ⟨(some 9), .mv (.k (.c (.int .i64 0))), none⟩]
abbrev o_bus_Bus_Carry_9 : List IOper := [⟨(some 38), .mkfn fn_bus_Bus_Carry_1 [] [(.t 11)], none⟩,
  ⟨(some 13), .mv (.t 38), none⟩]
abbrev o_bus_Bus_Carry_10 : List IOper := [⟨(some 39), .mv (.t 10), none⟩,
  ⟨(some 40), .len false (.t 39), none⟩,
  ⟨(some 41), .mv (.k (.c (.int .i64 0))), none⟩]
abbrev o_bus_Bus_Carry_11 : List IOper := [⟨(some 42), .bin .lss (.t 41) (.t 40), none⟩]
abbrev o_bus_Bus_Carry_12 : List IOper := [⟨(some 43), .mv (.t 41), none⟩,
  ⟨(some 14), .mv (.t 43), none⟩]
abbrev o_bus_Bus_Carry_13 : List IOper := [⟨(some 44), .build [(.int .i64 0), (.int .i64 0), (.int .u32 0)] [], none⟩,
  ⟨(some 15), .new 62 (.agg [(.int .i64 0), (.int .i64 0), (.int .u32 0)]), none⟩,
  ⟨none, .st 3 (.t 15) (.t 44), none⟩]
abbrev o_bus_Bus_Carry_14 : List IOper := [⟨(some 45), .mv (.t 14), none⟩,
  ⟨(some 46), .mv (.t 3), none⟩,
  ⟨(some 47), .len false (.t 46), none⟩,
  ⟨(some 48), .bin .lss (.t 45) (.t 47), none⟩,
  ⟨(some 49), .mv (.t 48), none⟩,
  ⟨(some 50), .mv (.t 14), some (49, true)⟩,
  ⟨(some 51), .mv (.t 0), some (49, true)⟩,
  ⟨(some 52), .mv (.t 1), some (49, true)⟩,
  ⟨(some 53), .call (.k (.c (.fn fn_bus_Bus_owner [] []))) [(.t 51), (.t 52)], some (49, true)⟩,
  ⟨(some 54), .bin .neq (.t 50) (.t 53), some (49, true)⟩,
  ⟨(some 55), .pick (.t 49) (.t 54) (.k (.c (.bool false))), none⟩]
abbrev o_bus_Bus_Carry_15 : List IOper := [⟨(some 56), .mv (.t 3), none⟩,
  ⟨(some 57), .mv (.t 14), none⟩,
  ⟨(some 58), .iaS 3 (.t 56) (.t 57), none⟩,
  ⟨(some 59), .ld (some 3) (.t 58), none⟩,
  ⟨none, .st 3 (.t 15) (.t 59), none⟩]
abbrev o_bus_Bus_Carry_16 : List IOper := [⟨(some 60), .fa 0 (.t 15), none⟩,
  ⟨(some 61), .ld none (.t 60), none⟩]
abbrev o_bus_Bus_Carry_17 : List IOper := [⟨(some 68), .bin .eql (.t 61) (.k (.c (.int .i64 1))), none⟩,
  ⟨(some 67), .mv (.t 68), none⟩]
abbrev o_bus_Bus_Carry_18 : List IOper := [⟨(some 70), .bin .eql (.t 61) (.k (.c (.int .i64 2))), none⟩,
  ⟨(some 69), .mv (.t 70), none⟩]
abbrev o_bus_Bus_Carry_19 : List IOper := [⟨(some 71), .mv (.t 10), none⟩,
  ⟨(some 72), .mv (.t 14), none⟩,
  ⟨(some 73), .bsl 5 0 [] [], none⟩,
  ⟨(some 74), .ld none (.t 11), none⟩,
  ⟨(some 75), .fa 1 (.t 15), none⟩,
  ⟨(some 76), .ld none (.t 75), none⟩,
  ⟨(some 77), .fa 2 (.t 15), none⟩,
  ⟨(some 78), .ld none (.t 77), none⟩,
  ⟨(some 79), .call (.k (.c (.fn fn_frame_Corrupt [] []))) [(.t 74), (.t 76), (.t 78)], none⟩,
  ⟨(some 80), .app 5 1 1 (.t 73) (.t 79), none⟩,
  ⟨(some 81), .iaS 1 (.t 71) (.t 72), none⟩,
  ⟨none, .st 1 (.t 81) (.t 80), none⟩]
abbrev o_bus_Bus_Carry_20 : List IOper := [⟨(some 62), .mv (.t 10), none⟩,
  ⟨(some 63), .mv (.t 14), none⟩,
  ⟨(some 64), .mv (.t 13), none⟩,
  ⟨(some 65), .call (.t 64) [], none⟩,
  ⟨(some 66), .iaS 1 (.t 62) (.t 63), none⟩,
  ⟨none, .st 1 (.t 66) (.t 65), none⟩]
abbrev o_bus_Bus_Carry_21 : List IOper := [⟨(some 82), .bin .add (.t 41) (.k (.c (.int .i64 1))), none⟩,
  ⟨(some 41), .mv (.t 82), none⟩]
def b_bus_Bus_Carry_22 : IC := (.seq (.ops o_bus_Bus_Carry_11) (.seq (.cond (.t 42) .skip (.exit 1)) (.seq (.block 2 (.seq (.ops o_bus_Bus_Carry_12) (.seq (.ops o_bus_Bus_Carry_13) (.seq (.seq (.ops o_bus_Bus_Carry_14) (.cond (.t 55) (.ops o_bus_Bus_Carry_15) .skip)) (.seq (.ops o_bus_Bus_Carry_16) (.block 3 (.seq (.ops o_bus_Bus_Carry_17) (.cond (.t 67) .skip (.seq (.ops o_bus_Bus_Carry_18) (.cond (.t 69) (.ops o_bus_Bus_Carry_19) (.ops o_bus_Bus_Carry_20))))))))))) (.ops o_bus_Bus_Carry_21))))
abbrev o_bus_Bus_Carry_23 : List IOper := [⟨(some 83), .mv (.t 10), none⟩,
  ⟨(some 8), .mv (.t 83), none⟩,
  ⟨(some 9), .mv (.k (.c (.int .i64 0))), none⟩]
def c_bus_Bus_Carry : IC := (.seq (.ops o_bus_Bus_Carry_0) (.seq (.block 0 (.seq (.ops o_bus_Bus_Carry_1) (.cond (.t 16) (.seq (.ops o_bus_Bus_Carry_2) .ret) (.seq (.ops o_bus_Bus_Carry_3) (.cond (.t 19) (.seq (.ops o_bus_Bus_Carry_4) .ret) .skip))))) (.seq (.ops o_bus_Bus_Carry_5) (.seq (.ops o_bus_Bus_Carry_6) (.seq (.seq (.ops o_bus_Bus_Carry_7) (.cond (.t 36) (.seq (.ops o_bus_Bus_Carry_8) .ret) .skip)) (.seq (.ops o_bus_Bus_Carry_9) (.seq (.seq (.ops o_bus_Bus_Carry_10) (.block 1 (.loop b_bus_Bus_Carry_22))) (.seq (.ops o_bus_Bus_Carry_23) .ret))))))))
def i_bus_Bus_Carry : IFn := ⟨84, c_bus_Bus_Carry, [(8, none), (9, none)]⟩

-- F 13 (*rota/rotaref07.Bus).Carry: bads 0, calls [10, 24, 28]
abbrev o_rotaref07_Bus_Carry_0 : List IOper := [⟨(some 8), .mv (.k (.c (.sl none 0 0 false))), none⟩,
  ⟨(some 9), .mv (.k (.c (.sl none 0 0 false))), none⟩,
  ⟨(some 10), .mv (.k (.c (.int .i64 0))), none⟩]
abbrev o_rotaref07_Bus_Carry_1 : List IOper := [⟨(some 19), .mv (.t 1), none⟩,
  ⟨(some 20), .bin .lss (.t 19) (.k (.c (.int .i64 0))), none⟩]
abbrev o_rotaref07_Bus_Carry_2 : List IOper := [⟨(some 8), .mv (.k (.c (.sl none 0 0 false))), none⟩,
  ⟨(some 9), .mv (.k (.c (.sl none 0 0 false))), none⟩,
  ⟨(some 10), .mv (.k (.c (.int .i64 2))), none⟩]
abbrev o_rotaref07_Bus_Carry_3 : List IOper := [⟨(some 22), .mv (.t 0), none⟩,
  ⟨(some 23), .mv (.t 1), none⟩,
  ⟨(some 24), .mv (.t 2), none⟩,
  ⟨(some 25), .call (.k (.c (.fn fn_rotaref07_Bus_Pass [] []))) [(.t 22), (.t 23), (.t 24)], none⟩,
  ⟨(some 21), .mv (.t 25), none⟩,
  ⟨(some 26), .ext (.t 21) 0, none⟩,
  ⟨(some 27), .ext (.t 21) 1, none⟩,
  ⟨(some 11), .mv (.t 26), none⟩,
  ⟨(some 12), .mv (.t 27), none⟩]
abbrev o_rotaref07_Bus_Carry_4 : List IOper := [⟨(some 13), .mv (.k (.c (.sl none 0 0 false))), none⟩]
abbrev o_rotaref07_Bus_Carry_5 : List IOper := [⟨(some 14), .mv (.k (.c (.sl none 0 0 false))), none⟩]
abbrev o_rotaref07_Bus_Carry_6 : List IOper := [⟨(some 15), .mv (.k (.c (.int .i64 0))), none⟩]
abbrev o_rotaref07_Bus_Carry_7 : List IOper := [⟨(some 28), .mv (.t 15), none⟩,
  ⟨(some 29), .mv (.t 0), none⟩,
  ⟨(some 30), .nilck (.t 29), none⟩,
  ⟨(some 31), .fa 0 (.t 30), none⟩,
  ⟨(some 32), .ld none (.t 31), none⟩,
  ⟨(some 33), .len false (.t 32), none⟩,
  ⟨(some 34), .bin .lss (.t 28) (.t 33), none⟩]
abbrev o_rotaref07_Bus_Carry_8 : List IOper := [⟨(some 37), .build [(.int .i64 0), (.int .i64 0), (.int .u32 0)] [], none⟩,
  ⟨(some 16), .new 62 (.agg [(.int .i64 0), (.int .i64 0), (.int .u32 0)]), none⟩,
  ⟨none, .st 3 (.t 16) (.t 37), none⟩]
abbrev o_rotaref07_Bus_Carry_9 : List IOper := [⟨(some 38), .mv (.t 15), none⟩,
  ⟨(some 39), .mv (.t 3), none⟩,
  ⟨(some 40), .len false (.t 39), none⟩,
  ⟨(some 41), .bin .lss (.t 38) (.t 40), none⟩,
  ⟨(some 42), .mv (.t 41), none⟩,
  ⟨(some 43), .mv (.t 15), some (42, true)⟩,
  ⟨(some 44), .mv (.t 0), some (42, true)⟩,
  ⟨(some 45), .mv (.t 1), some (42, true)⟩,
  ⟨(some 46), .call (.k (.c (.fn fn_rotaref07_Bus_owner [] []))) [(.t 44), (.t 45)], some (42, true)⟩,
  ⟨(some 47), .bin .neq (.t 43) (.t 46), some (42, true)⟩,
  ⟨(some 48), .pick (.t 42) (.t 47) (.k (.c (.bool false))), none⟩]
abbrev o_rotaref07_Bus_Carry_10 : List IOper := [⟨(some 49), .mv (.t 3), none⟩,
  ⟨(some 50), .mv (.t 15), none⟩,
  ⟨(some 51), .iaS 3 (.t 49) (.t 50), none⟩,
  ⟨(some 52), .ld (some 3) (.t 51), none⟩,
  ⟨none, .st 3 (.t 16) (.t 52), none⟩]
abbrev o_rotaref07_Bus_Carry_11 : List IOper := [⟨(some 53), .mv (.t 11), none⟩,
  ⟨(some 17), .mv (.t 53), none⟩]
abbrev o_rotaref07_Bus_Carry_12 : List IOper := [⟨(some 54), .fa 0 (.t 16), none⟩,
  ⟨(some 55), .ld none (.t 54), none⟩,
  ⟨(some 56), .bin .eql (.t 55) (.k (.c (.int .i64 2))), none⟩]
abbrev o_rotaref07_Bus_Carry_13 : List IOper := [⟨(some 57), .mv (.t 11), none⟩,
  ⟨(some 58), .fa 1 (.t 16), none⟩,
  ⟨(some 59), .ld none (.t 58), none⟩,
  ⟨(some 60), .fa 2 (.t 16), none⟩,
  ⟨(some 61), .ld none (.t 60), none⟩,
  ⟨(some 62), .call (.k (.c (.fn fn_rotaref07_turned [] []))) [(.t 57), (.t 59), (.t 61)], none⟩,
  ⟨(some 17), .mv (.t 62), none⟩]
abbrev o_rotaref07_Bus_Carry_14 : List IOper := [⟨(some 63), .mv (.t 12), none⟩,
  ⟨(some 64), .mv (.t 63), none⟩,
  ⟨(some 65), .fa 0 (.t 16), some (64, true)⟩,
  ⟨(some 66), .ld none (.t 65), some (64, true)⟩,
  ⟨(some 67), .bin .neq (.t 66) (.k (.c (.int .i64 1))), some (64, true)⟩,
  ⟨(some 68), .pick (.t 64) (.t 67) (.k (.c (.bool false))), none⟩,
  ⟨(some 18), .mv (.t 68), none⟩]
abbrev o_rotaref07_Bus_Carry_15 : List IOper := [⟨(some 69), .mv (.t 18), none⟩,
  ⟨(some 70), .un .not (.t 69), none⟩]
abbrev o_rotaref07_Bus_Carry_16 : List IOper := [⟨(some 17), .mv (.k (.c (.sl none 0 0 false))), none⟩]
abbrev o_rotaref07_Bus_Carry_17 : List IOper := [⟨(some 71), .mv (.t 13), none⟩,
  ⟨(some 72), .mv (.t 17), none⟩,
  ⟨(some 73), .bsl 44 1 [(.sl none 0 0 false)] [(0, 1, (.t 72))], none⟩,
  ⟨(some 74), .app 44 1 24 (.t 71) (.t 73), none⟩,
  ⟨(some 13), .mv (.t 74), none⟩]
abbrev o_rotaref07_Bus_Carry_18 : List IOper := [⟨(some 75), .mv (.t 14), none⟩,
  ⟨(some 76), .mv (.t 18), none⟩,
  ⟨(some 77), .bsl 4 1 [(.bool false)] [(0, 1, (.t 76))], none⟩,
  ⟨(some 78), .app 4 1 1 (.t 75) (.t 77), none⟩,
  ⟨(some 14), .mv (.t 78), none⟩]
abbrev o_rotaref07_Bus_Carry_19 : List IOper := [⟨(some 35), .mv (.t 15), none⟩,
  ⟨(some 36), .bin .add (.t 35) (.k (.c (.int .i64 1))), none⟩,
  ⟨(some 15), .mv (.t 36), none⟩]
def b_rotaref07_Bus_Carry_20 : IC := (.seq (.seq (.ops o_rotaref07_Bus_Carry_7) (.cond (.t 34) .skip (.exit 0))) (.seq (.block 1 (.seq (.ops o_rotaref07_Bus_Carry_8) (.seq (.seq (.ops o_rotaref07_Bus_Carry_9) (.cond (.t 48) (.ops o_rotaref07_Bus_Carry_10) .skip)) (.seq (.ops o_rotaref07_Bus_Carry_11) (.seq (.seq (.ops o_rotaref07_Bus_Carry_12) (.cond (.t 56) (.ops o_rotaref07_Bus_Carry_13) .skip)) (.seq (.ops o_rotaref07_Bus_Carry_14) (.seq (.seq (.ops o_rotaref07_Bus_Carry_15) (.cond (.t 70) (.ops o_rotaref07_Bus_Carry_16) .skip)) (.seq (.ops o_rotaref07_Bus_Carry_17) (.ops o_rotaref07_Bus_Carry_18))))))))) (.ops o_rotaref07_Bus_Carry_19)))
abbrev o_rotaref07_Bus_Carry_21 : List IOper := [⟨(some 79), .mv (.t 13), none⟩,
  ⟨(some 80), .mv (.t 14), none⟩,
  ⟨(some 8), .mv (.t 79), none⟩,
  ⟨(some 9), .mv (.t 80), none⟩,
  ⟨(some 10), .mv (.k (.c (.int .i64 0))), none⟩]
def c_rotaref07_Bus_Carry : IC := (.seq (.ops o_rotaref07_Bus_Carry_0) (.seq (.seq (.ops o_rotaref07_Bus_Carry_1) (.cond (.t 20) (.seq (.ops o_rotaref07_Bus_Carry_2) .ret) .skip)) (.seq (.ops o_rotaref07_Bus_Carry_3) (.seq (.ops o_rotaref07_Bus_Carry_4) (.seq (.ops o_rotaref07_Bus_Carry_5) (.seq (.seq (.ops o_rotaref07_Bus_Carry_6) (.block 0 (.loop b_rotaref07_Bus_Carry_20))) (.seq (.ops o_rotaref07_Bus_Carry_21) .ret)))))))
def i_rotaref07_Bus_Carry : IFn := ⟨81, c_rotaref07_Bus_Carry, [(8, none), (9, none), (10, none)]⟩

-- F 14 rota/rotalaw07.same: bads 0, calls [11]
abbrev o_rotalaw07_same_0 : List IOper := [⟨(some 6), .mv (.k (.c (.bool false))), none⟩]
abbrev o_rotalaw07_same_1 : List IOper := [⟨(some 8), .mv (.t 0), none⟩,
  ⟨(some 9), .len false (.t 8), none⟩,
  ⟨(some 10), .mv (.t 1), none⟩,
  ⟨(some 11), .len false (.t 10), none⟩,
  ⟨(some 12), .bin .neq (.t 9) (.t 11), none⟩]
abbrev o_rotalaw07_same_2 : List IOper := [⟨(some 6), .mv (.k (.c (.bool false))), none⟩]
abbrev o_rotalaw07_same_3 : List IOper := [⟨(some 7), .mv (.k (.c (.int .i64 0))), none⟩]
abbrev o_rotalaw07_same_4 : List IOper := [⟨(some 13), .mv (.t 7), none⟩,
  ⟨(some 14), .mv (.t 0), none⟩,
  ⟨(some 15), .len false (.t 14), none⟩,
  ⟨(some 16), .bin .lss (.t 13) (.t 15), none⟩]
abbrev o_rotalaw07_same_5 : List IOper := [⟨(some 19), .mv (.t 0), none⟩,
  ⟨(some 20), .mv (.t 7), none⟩,
  ⟨(some 21), .iaS 1 (.t 19) (.t 20), none⟩,
  ⟨(some 22), .ld none (.t 21), none⟩,
  ⟨(some 23), .mv (.t 1), none⟩,
  ⟨(some 24), .mv (.t 7), none⟩,
  ⟨(some 25), .iaS 1 (.t 23) (.t 24), none⟩,
  ⟨(some 26), .ld none (.t 25), none⟩,
  ⟨(some 27), .call (.k (.c (.fn fn_rotaref07_Bytes [] []))) [(.t 22), (.t 26)], none⟩,
  ⟨(some 28), .un .not (.t 27), none⟩,
  ⟨(some 29), .mv (.t 28), none⟩,
  ⟨(some 30), .mv (.t 0), some (29, false)⟩,
  ⟨(some 31), .mv (.t 7), some (29, false)⟩,
  ⟨(some 32), .iaS 1 (.t 30) (.t 31), some (29, false)⟩,
  ⟨(some 33), .ld none (.t 32), some (29, false)⟩,
  ⟨(some 34), .eq .sl true (.t 33) (.k (.c (.sl none 0 0 false))), some (29, false)⟩,
  ⟨(some 35), .mv (.t 2), some (29, false)⟩,
  ⟨(some 36), .mv (.t 7), some (29, false)⟩,
  ⟨(some 37), .iaS 1 (.t 35) (.t 36), some (29, false)⟩,
  ⟨(some 38), .ld none (.t 37), some (29, false)⟩,
  ⟨(some 39), .eq .bool true (.t 34) (.t 38), some (29, false)⟩,
  ⟨(some 40), .pick (.t 29) (.k (.c (.bool true))) (.t 39), none⟩]
abbrev o_rotalaw07_same_6 : List IOper := [⟨(some 6), .mv (.k (.c (.bool false))), none⟩]
abbrev o_rotalaw07_same_7 : List IOper := [⟨(some 17), .mv (.t 7), none⟩,
  ⟨(some 18), .bin .add (.t 17) (.k (.c (.int .i64 1))), none⟩,
  ⟨(some 7), .mv (.t 18), none⟩]
def b_rotalaw07_same_8 : IC := (.seq (.seq (.ops o_rotalaw07_same_4) (.cond (.t 16) .skip (.exit 0))) (.seq (.block 1 (.seq (.ops o_rotalaw07_same_5) (.cond (.t 40) (.seq (.ops o_rotalaw07_same_6) .ret) .skip))) (.ops o_rotalaw07_same_7)))
abbrev o_rotalaw07_same_9 : List IOper := [⟨(some 6), .mv (.k (.c (.bool true))), none⟩]
def c_rotalaw07_same : IC := (.seq (.ops o_rotalaw07_same_0) (.seq (.seq (.ops o_rotalaw07_same_1) (.cond (.t 12) (.seq (.ops o_rotalaw07_same_2) .ret) .skip)) (.seq (.seq (.ops o_rotalaw07_same_3) (.block 0 (.loop b_rotalaw07_same_8))) (.seq (.ops o_rotalaw07_same_9) .ret))))
def i_rotalaw07_same : IFn := ⟨41, c_rotalaw07_same, [(6, none)]⟩

-- F 15 (*rota/bus.Bus).Blocked: bads 0, calls [29]
abbrev o_bus_Bus_Blocked_0 : List IOper := [⟨(some 2), .mv (.k (.c (.int .u64 0))), none⟩]
abbrev o_bus_Bus_Blocked_1 : List IOper := [⟨(some 3), .mv (.t 0), none⟩,
  ⟨(some 4), .eq .ptr false (.t 3) (.k (.c (.ptr none))), none⟩]
abbrev o_bus_Bus_Blocked_2 : List IOper := [⟨(some 2), .mv (.k (.c (.int .u64 0))), none⟩]
abbrev o_bus_Bus_Blocked_3 : List IOper := [⟨(some 5), .mv (.t 0), none⟩,
  ⟨(some 6), .nilck (.t 5), none⟩,
  ⟨(some 7), .fa 1 (.t 6), none⟩,
  ⟨(some 8), .call (.k (.c (.fn fn_atomic_Uint64_Load [] []))) [(.t 7)], none⟩,
  ⟨(some 2), .mv (.t 8), none⟩]
def c_bus_Bus_Blocked : IC := (.seq (.ops o_bus_Bus_Blocked_0) (.seq (.seq (.ops o_bus_Bus_Blocked_1) (.cond (.t 4) (.seq (.ops o_bus_Bus_Blocked_2) .ret) .skip)) (.seq (.ops o_bus_Bus_Blocked_3) .ret)))
def i_bus_Bus_Blocked : IFn := ⟨9, c_bus_Bus_Blocked, [(2, none)]⟩

-- F 16 (*rota/bus.Bus).Passed: bads 0, calls [29]
abbrev o_bus_Bus_Passed_0 : List IOper := [⟨(some 2), .mv (.k (.c (.int .u64 0))), none⟩]
abbrev o_bus_Bus_Passed_1 : List IOper := [⟨(some 3), .mv (.t 0), none⟩,
  ⟨(some 4), .eq .ptr false (.t 3) (.k (.c (.ptr none))), none⟩]
abbrev o_bus_Bus_Passed_2 : List IOper := [⟨(some 2), .mv (.k (.c (.int .u64 0))), none⟩]
abbrev o_bus_Bus_Passed_3 : List IOper := [⟨(some 5), .mv (.t 0), none⟩,
  ⟨(some 6), .nilck (.t 5), none⟩,
  ⟨(some 7), .fa 2 (.t 6), none⟩,
  ⟨(some 8), .call (.k (.c (.fn fn_atomic_Uint64_Load [] []))) [(.t 7)], none⟩,
  ⟨(some 2), .mv (.t 8), none⟩]
def c_bus_Bus_Passed : IC := (.seq (.ops o_bus_Bus_Passed_0) (.seq (.seq (.ops o_bus_Bus_Passed_1) (.cond (.t 4) (.seq (.ops o_bus_Bus_Passed_2) .ret) .skip)) (.seq (.ops o_bus_Bus_Passed_3) .ret)))
def i_bus_Bus_Passed : IFn := ⟨9, c_bus_Bus_Passed, [(2, none)]⟩

-- F 17 rota/rotalaw07.Four: bads 0, calls []
abbrev o_rotalaw07_Four_0 : List IOper := [⟨(some 0), .new 28 (.agg ([(.int .i64 0)] ++ [(.sl none 0 0 false)] ++ List.replicate 6 (.int .i64 0) ++ List.replicate 4 (.sl none 0 0 false))), none⟩]
abbrev o_rotalaw07_Four_1 : List IOper := [⟨(some 2), .bsl 3 4 (List.replicate 4 (.int .i64 0)) [(0, 1, (.k (.c (.int .i64 (-1))))), (1, 1, (.k (.c (.int .i64 (-1))))), (2, 1, (.k (.c (.int .i64 (-1))))), (3, 1, (.k (.c (.int .i64 (-1)))))], none⟩,
  ⟨(some 1), .mv (.t 2), none⟩]
abbrev o_rotalaw07_Four_2 : List IOper := [⟨(some 3), .bsl 3 4 (List.replicate 4 (.int .i64 0)) [(0, 1, (.k (.c (.int .i64 0)))), (1, 1, (.k (.c (.int .i64 1)))), (2, 1, (.k (.c (.int .i64 2)))), (3, 1, (.k (.c (.int .i64 3))))], none⟩,
  ⟨(some 4), .mv (.t 1), none⟩,
  ⟨(some 5), .mv (.t 1), none⟩,
  ⟨(some 6), .mv (.t 1), none⟩,
  ⟨(some 7), .mv (.t 1), none⟩,
  ⟨(some 8), .bsl 22 4 (List.replicate 4 (.sl none 0 0 false)) [(0, 1, (.t 4)), (1, 1, (.t 5)), (2, 1, (.t 6)), (3, 1, (.t 7))], none⟩,
  ⟨(some 9), .build ([(.int .i64 0)] ++ [(.sl none 0 0 false)] ++ List.replicate 6 (.int .i64 0) ++ List.replicate 4 (.sl none 0 0 false)) [(0, 1, (.k (.c (.int .i64 4)))), (1, 1, (.t 3)), (2, 1, (.k (.c (.int .i64 1)))), (3, 1, (.k (.c (.int .i64 1)))), (4, 1, (.k (.c (.int .i64 20)))), (5, 1, (.k (.c (.int .i64 20)))), (6, 1, (.k (.c (.int .i64 1)))), (7, 1, (.k (.c (.int .i64 4)))), (9, 1, (.t 8))], none⟩,
  ⟨none, .st 12 (.t 0) (.t 9), none⟩]
def c_rotalaw07_Four : IC := (.seq (.ops o_rotalaw07_Four_0) (.seq (.ops o_rotalaw07_Four_1) (.seq (.ops o_rotalaw07_Four_2) .ret)))
def i_rotalaw07_Four : IFn := ⟨10, c_rotalaw07_Four, [(0, (some (some 12)))]⟩

-- F 18 rota/rotalaw07.alive: bads 0, calls [17, 7, 9, 15, 16]
abbrev o_rotalaw07_alive_0 : List IOper := [⟨(some 0), .mv (.k (.c (.bool false))), none⟩]
abbrev o_rotalaw07_alive_1 : List IOper := [⟨(some 6), .call (.k (.c (.fn fn_rotalaw07_Four [] []))) [], none⟩,
  ⟨(some 7), .call (.k (.c (.fn fn_bus_New [] []))) [(.t 6)], none⟩,
  ⟨(some 5), .mv (.t 7), none⟩,
  ⟨(some 8), .ext (.t 5) 0, none⟩,
  ⟨(some 9), .ext (.t 5) 1, none⟩,
  ⟨(some 1), .mv (.t 8), none⟩,
  ⟨(some 2), .mv (.t 9), none⟩]
abbrev o_rotalaw07_alive_2 : List IOper := [⟨(some 11), .mv (.t 1), none⟩,
  ⟨(some 12), .bsl 5 1 [(.int .u8 0)] [(0, 1, (.k (.c (.int .u8 1))))], none⟩,
  ⟨(some 13), .build [(.int .i64 0), (.sl none 0 0 false)] [(0, 1, (.k (.c (.int .i64 0)))), (1, 1, (.t 12))], none⟩,
  ⟨(some 14), .bsl 5 1 [(.int .u8 0)] [(0, 1, (.k (.c (.int .u8 2))))], none⟩,
  ⟨(some 15), .build [(.int .i64 0), (.sl none 0 0 false)] [(0, 1, (.k (.c (.int .i64 1)))), (1, 1, (.t 14))], none⟩,
  ⟨(some 16), .bsl 5 1 [(.int .u8 0)] [(0, 1, (.k (.c (.int .u8 3))))], none⟩,
  ⟨(some 17), .build [(.int .i64 0), (.sl none 0 0 false)] [(0, 1, (.k (.c (.int .i64 1)))), (1, 1, (.t 16))], none⟩,
  ⟨(some 18), .bsl 59 3 [(.int .i64 0), (.sl none 0 0 false), (.int .i64 0), (.sl none 0 0 false), (.int .i64 0), (.sl none 0 0 false)] [(0, 2, (.t 13)), (2, 2, (.t 15)), (4, 2, (.t 17))], none⟩,
  ⟨(some 19), .call (.k (.c (.fn fn_bus_Bus_Pass [] []))) [(.t 11), (.k (.c (.int .i64 5))), (.t 18)], none⟩,
  ⟨(some 10), .mv (.t 19), none⟩,
  ⟨(some 20), .ext (.t 10) 0, none⟩,
  ⟨(some 21), .ext (.t 10) 1, none⟩,
  ⟨(some 3), .mv (.t 20), none⟩,
  ⟨(some 4), .mv (.t 21), none⟩]
abbrev o_rotalaw07_alive_3 : List IOper := [⟨(some 22), .mv (.t 2), none⟩,
  ⟨(some 23), .bin .eql (.t 22) (.k (.c (.int .i64 0))), none⟩,
  ⟨(some 24), .mv (.t 23), none⟩,
  ⟨(some 25), .mv (.t 4), some (24, true)⟩,
  ⟨(some 26), .pick (.t 24) (.t 25) (.k (.c (.bool false))), none⟩,
  ⟨(some 27), .mv (.t 26), none⟩,
  ⟨(some 28), .mv (.t 3), some (27, true)⟩,
  ⟨(some 29), .len false (.t 28), some (27, true)⟩,
  ⟨(some 30), .bin .eql (.t 29) (.k (.c (.int .i64 1))), some (27, true)⟩,
  ⟨(some 31), .pick (.t 27) (.t 30) (.k (.c (.bool false))), none⟩,
  ⟨(some 32), .mv (.t 31), none⟩,
  ⟨(some 33), .mv (.t 3), some (32, true)⟩,
  ⟨(some 34), .iaS 1 (.t 33) (.k (.c (.int .i64 0))), some (32, true)⟩,
  ⟨(some 35), .ld none (.t 34), some (32, true)⟩,
  ⟨(some 36), .bin .eql (.t 35) (.k (.c (.int .u8 2))), some (32, true)⟩,
  ⟨(some 37), .pick (.t 32) (.t 36) (.k (.c (.bool false))), none⟩,
  ⟨(some 38), .mv (.t 37), none⟩,
  ⟨(some 39), .mv (.t 1), some (38, true)⟩,
  ⟨(some 40), .call (.k (.c (.fn fn_bus_Bus_Blocked [] []))) [(.t 39)], some (38, true)⟩,
  ⟨(some 41), .bin .eql (.t 40) (.k (.c (.int .u64 2))), some (38, true)⟩,
  ⟨(some 42), .pick (.t 38) (.t 41) (.k (.c (.bool false))), none⟩,
  ⟨(some 43), .mv (.t 42), none⟩,
  ⟨(some 44), .mv (.t 1), some (43, true)⟩,
  ⟨(some 45), .call (.k (.c (.fn fn_bus_Bus_Passed [] []))) [(.t 44)], some (43, true)⟩,
  ⟨(some 46), .bin .eql (.t 45) (.k (.c (.int .u64 1))), some (43, true)⟩,
  ⟨(some 47), .pick (.t 43) (.t 46) (.k (.c (.bool false))), none⟩,
  ⟨(some 0), .mv (.t 47), none⟩]
def c_rotalaw07_alive : IC := (.seq (.ops o_rotalaw07_alive_0) (.seq (.ops o_rotalaw07_alive_1) (.seq (.ops o_rotalaw07_alive_2) (.seq (.ops o_rotalaw07_alive_3) .ret))))
def i_rotalaw07_alive : IFn := ⟨48, c_rotalaw07_alive, [(0, none)]⟩

-- F 19 rota/config.Check: bads 0, calls [30]
abbrev o_config_Check_0 : List IOper := [⟨(some 1), .box 28 (.t 0), none⟩,
  ⟨(some 2), .mv (.k (.c (.int .i64 0))), none⟩]
abbrev o_config_Check_1 : List IOper := [⟨(some 3), .mv (.k (.c (.int .i64 21))), none⟩]
abbrev o_config_Check_2 : List IOper := [⟨(some 4), .mv (.t 3), none⟩,
  ⟨(some 5), .bin .leq (.t 4) (.k (.c (.int .i64 26))), none⟩]
abbrev o_config_Check_3 : List IOper := [⟨(some 8), .mv (.t 3), none⟩,
  ⟨(some 9), .ld (some 12) (.t 1), none⟩,
  ⟨(some 10), .call (.k (.c (.fn fn_config_fine [] []))) [(.t 8), (.t 9)], none⟩,
  ⟨(some 11), .un .not (.t 10), none⟩]
abbrev o_config_Check_4 : List IOper := [⟨(some 12), .mv (.t 3), none⟩,
  ⟨(some 2), .mv (.t 12), none⟩]
abbrev o_config_Check_5 : List IOper := [⟨(some 6), .mv (.t 3), none⟩,
  ⟨(some 7), .bin .add (.t 6) (.k (.c (.int .i64 1))), none⟩,
  ⟨(some 3), .mv (.t 7), none⟩]
def b_config_Check_6 : IC := (.seq (.seq (.ops o_config_Check_2) (.cond (.t 5) .skip (.exit 0))) (.seq (.block 1 (.seq (.ops o_config_Check_3) (.cond (.t 11) (.seq (.ops o_config_Check_4) .ret) .skip))) (.ops o_config_Check_5)))
abbrev o_config_Check_7 : List IOper := [⟨(some 2), .mv (.k (.c (.int .i64 0))), none⟩]
def c_config_Check : IC := (.seq (.ops o_config_Check_0) (.seq (.seq (.ops o_config_Check_1) (.block 0 (.loop b_config_Check_6))) (.seq (.ops o_config_Check_7) .ret)))
def i_config_Check : IFn := ⟨13, c_config_Check, [(2, none)]⟩

-- F 20 slices.Clone[[]int,int]: bads 0, calls []
abbrev o_slices_Clone_int_int_0 : List IOper := [⟨(some 2), .mv (.k (.c (.sl none 0 0 false))), none⟩]
abbrev o_slices_Clone_int_int_1 : List IOper := [⟨(some 3), .mv (.t 0), none⟩,
  ⟨(some 4), .eq .sl false (.t 3) (.k (.c (.sl none 0 0 false))), none⟩]
abbrev o_slices_Clone_int_int_2 : List IOper := [⟨(some 2), .mv (.k (.c (.sl none 0 0 false))), none⟩]
abbrev o_slices_Clone_int_int_3 : List IOper := [⟨(some 5), .bsl 3 0 [] [], none⟩,
  ⟨(some 6), .mv (.t 0), none⟩,
  ⟨(some 7), .app 3 1 8 (.t 5) (.t 6), none⟩,
  ⟨(some 2), .mv (.t 7), none⟩]
def c_slices_Clone_int_int : IC := (.seq (.ops o_slices_Clone_int_int_0) (.seq (.seq (.ops o_slices_Clone_int_int_1) (.cond (.t 4) (.seq (.ops o_slices_Clone_int_int_2) .ret) .skip)) (.seq (.ops o_slices_Clone_int_int_3) .ret)))
def i_slices_Clone_int_int : IFn := ⟨8, c_slices_Clone_int_int, [(2, none)]⟩

-- F 21 rota/rotaref02.Check: bads 0, calls [31, 32, 33, 34, 35, 36]
abbrev o_rotaref02_Check_0 : List IOper := [⟨(some 1), .box 28 (.t 0), none⟩,
  ⟨(some 2), .mv (.k (.c (.int .i64 0))), none⟩]
abbrev o_rotaref02_Check_1 : List IOper := [⟨(some 3), .ld (some 12) (.t 1), none⟩,
  ⟨(some 4), .call (.k (.c (.fn fn_rotaref02_nodes [] []))) [(.t 3)], none⟩,
  ⟨(some 5), .un .not (.t 4), none⟩]
abbrev o_rotaref02_Check_2 : List IOper := [⟨(some 2), .mv (.k (.c (.int .i64 21))), none⟩]
abbrev o_rotaref02_Check_3 : List IOper := [⟨(some 6), .ld (some 12) (.t 1), none⟩,
  ⟨(some 7), .call (.k (.c (.fn fn_rotaref02_clock [] []))) [(.t 6)], none⟩,
  ⟨(some 8), .un .not (.t 7), none⟩]
abbrev o_rotaref02_Check_4 : List IOper := [⟨(some 2), .mv (.k (.c (.int .i64 22))), none⟩]
abbrev o_rotaref02_Check_5 : List IOper := [⟨(some 9), .ld (some 12) (.t 1), none⟩,
  ⟨(some 10), .call (.k (.c (.fn fn_rotaref02_parts [] []))) [(.t 9)], none⟩,
  ⟨(some 11), .un .not (.t 10), none⟩]
abbrev o_rotaref02_Check_6 : List IOper := [⟨(some 2), .mv (.k (.c (.int .i64 23))), none⟩]
abbrev o_rotaref02_Check_7 : List IOper := [⟨(some 12), .ld (some 12) (.t 1), none⟩,
  ⟨(some 13), .call (.k (.c (.fn fn_rotaref02_windows [] []))) [(.t 12)], none⟩,
  ⟨(some 14), .un .not (.t 13), none⟩]
abbrev o_rotaref02_Check_8 : List IOper := [⟨(some 2), .mv (.k (.c (.int .i64 24))), none⟩]
abbrev o_rotaref02_Check_9 : List IOper := [⟨(some 15), .ld (some 12) (.t 1), none⟩,
  ⟨(some 16), .call (.k (.c (.fn fn_rotaref02_ports [] []))) [(.t 15)], none⟩,
  ⟨(some 17), .un .not (.t 16), none⟩]
abbrev o_rotaref02_Check_10 : List IOper := [⟨(some 2), .mv (.k (.c (.int .i64 25))), none⟩]
abbrev o_rotaref02_Check_11 : List IOper := [⟨(some 18), .ld (some 12) (.t 1), none⟩,
  ⟨(some 19), .call (.k (.c (.fn fn_rotaref02_links [] []))) [(.t 18)], none⟩,
  ⟨(some 20), .un .not (.t 19), none⟩]
abbrev o_rotaref02_Check_12 : List IOper := [⟨(some 2), .mv (.k (.c (.int .i64 26))), none⟩]
abbrev o_rotaref02_Check_13 : List IOper := [⟨(some 2), .mv (.k (.c (.int .i64 0))), none⟩]
def c_rotaref02_Check : IC := (.seq (.ops o_rotaref02_Check_0) (.seq (.seq (.ops o_rotaref02_Check_1) (.cond (.t 5) (.seq (.ops o_rotaref02_Check_2) .ret) .skip)) (.seq (.seq (.ops o_rotaref02_Check_3) (.cond (.t 8) (.seq (.ops o_rotaref02_Check_4) .ret) .skip)) (.seq (.seq (.ops o_rotaref02_Check_5) (.cond (.t 11) (.seq (.ops o_rotaref02_Check_6) .ret) .skip)) (.seq (.seq (.ops o_rotaref02_Check_7) (.cond (.t 14) (.seq (.ops o_rotaref02_Check_8) .ret) .skip)) (.seq (.seq (.ops o_rotaref02_Check_9) (.cond (.t 17) (.seq (.ops o_rotaref02_Check_10) .ret) .skip)) (.seq (.seq (.ops o_rotaref02_Check_11) (.cond (.t 20) (.seq (.ops o_rotaref02_Check_12) .ret) .skip)) (.seq (.ops o_rotaref02_Check_13) .ret))))))))
def i_rotaref02_Check : IFn := ⟨21, c_rotaref02_Check, [(2, none)]⟩

-- F 22 (*rota/bus.Bus).pass: bads 0, calls [26, 38, 37, 39, 39, 39]
abbrev o_bus_Bus_pass_0 : List IOper := [⟨(some 6), .mv (.k (.c (.sl none 0 0 false))), none⟩,
  ⟨(some 7), .mv (.k (.c (.bool false))), none⟩]
abbrev o_bus_Bus_pass_1 : List IOper := [⟨(some 10), .mv (.t 0), none⟩,
  ⟨(some 11), .eq .ptr false (.t 10) (.k (.c (.ptr none))), none⟩]
abbrev o_bus_Bus_pass_2 : List IOper := [⟨(some 6), .mv (.k (.c (.sl none 0 0 false))), none⟩,
  ⟨(some 7), .mv (.k (.c (.bool false))), none⟩]
abbrev o_bus_Bus_pass_3 : List IOper := [⟨(some 12), .mv (.t 0), none⟩,
  ⟨(some 13), .mv (.t 1), none⟩,
  ⟨(some 14), .call (.k (.c (.fn fn_bus_Bus_owner [] []))) [(.t 12), (.t 13)], none⟩,
  ⟨(some 8), .new 3 (.c (.int .i64 0)), none⟩,
  ⟨none, .st 1 (.t 8) (.t 14), none⟩]
abbrev o_bus_Bus_pass_4 : List IOper := [⟨(some 15), .mv (.t 2), none⟩,
  ⟨(some 16), .mkfn fn_bus_Bus_pass_1 [] [(.t 8)], none⟩,
  ⟨(some 17), .call (.k (.c (.fn fn_slices_IndexFunc_api_Send_api_Send [] []))) [(.t 15), (.t 16)], none⟩,
  ⟨(some 9), .mv (.t 17), none⟩]
abbrev o_bus_Bus_pass_5 : List IOper := [⟨(some 18), .mv (.t 9), none⟩,
  ⟨(some 19), .bin .lss (.t 18) (.k (.c (.int .i64 0))), none⟩]
abbrev o_bus_Bus_pass_6 : List IOper := [⟨(some 20), .mv (.t 0), none⟩,
  ⟨(some 21), .nilck (.t 20), none⟩,
  ⟨(some 22), .fa 1 (.t 21), none⟩,
  ⟨(some 23), .mv (.t 2), none⟩,
  ⟨(some 24), .len false (.t 23), none⟩,
  ⟨(some 25), .cv .u64 (.t 24), none⟩,
  ⟨(some 26), .call (.k (.c (.fn fn_atomic_Uint64_Add [] []))) [(.t 22), (.t 25)], none⟩]
abbrev o_bus_Bus_pass_7 : List IOper := [⟨(some 6), .mv (.k (.c (.sl none 0 0 false))), none⟩,
  ⟨(some 7), .mv (.k (.c (.bool false))), none⟩]
abbrev o_bus_Bus_pass_8 : List IOper := [⟨(some 27), .mv (.t 0), none⟩,
  ⟨(some 28), .nilck (.t 27), none⟩,
  ⟨(some 29), .fa 1 (.t 28), none⟩,
  ⟨(some 30), .mv (.t 2), none⟩,
  ⟨(some 31), .len false (.t 30), none⟩,
  ⟨(some 32), .bin .sub (.t 31) (.k (.c (.int .i64 1))), none⟩,
  ⟨(some 33), .cv .u64 (.t 32), none⟩,
  ⟨(some 34), .call (.k (.c (.fn fn_atomic_Uint64_Add [] []))) [(.t 29), (.t 33)], none⟩]
abbrev o_bus_Bus_pass_9 : List IOper := [⟨(some 35), .mv (.t 0), none⟩,
  ⟨(some 36), .nilck (.t 35), none⟩,
  ⟨(some 37), .fa 2 (.t 36), none⟩,
  ⟨(some 38), .call (.k (.c (.fn fn_atomic_Uint64_Add [] []))) [(.t 37), (.k (.c (.int .u64 1)))], none⟩]
abbrev o_bus_Bus_pass_10 : List IOper := [⟨(some 39), .mv (.t 2), none⟩,
  ⟨(some 40), .mv (.t 9), none⟩,
  ⟨(some 41), .iaS 2 (.t 39) (.t 40), none⟩,
  ⟨(some 42), .fa 1 (.t 41), none⟩,
  ⟨(some 43), .ld none (.t 42), none⟩,
  ⟨(some 6), .mv (.t 43), none⟩,
  ⟨(some 7), .mv (.k (.c (.bool true))), none⟩]
def c_bus_Bus_pass : IC := (.seq (.ops o_bus_Bus_pass_0) (.seq (.seq (.ops o_bus_Bus_pass_1) (.cond (.t 11) (.seq (.ops o_bus_Bus_pass_2) .ret) .skip)) (.seq (.ops o_bus_Bus_pass_3) (.seq (.ops o_bus_Bus_pass_4) (.seq (.seq (.ops o_bus_Bus_pass_5) (.cond (.t 19) (.seq (.ops o_bus_Bus_pass_6) (.seq (.ops o_bus_Bus_pass_7) .ret)) .skip)) (.seq (.ops o_bus_Bus_pass_8) (.seq (.ops o_bus_Bus_pass_9) (.seq (.ops o_bus_Bus_pass_10) .ret))))))))
def i_bus_Bus_pass : IFn := ⟨44, c_bus_Bus_pass, [(6, none), (7, none)]⟩

-- F 23 slices.Clone[[]byte,byte]: bads 0, calls []
abbrev o_slices_Clone_byte_byte_0 : List IOper := [⟨(some 2), .mv (.k (.c (.sl none 0 0 false))), none⟩]
abbrev o_slices_Clone_byte_byte_1 : List IOper := [⟨(some 3), .mv (.t 0), none⟩,
  ⟨(some 4), .eq .sl false (.t 3) (.k (.c (.sl none 0 0 false))), none⟩]
abbrev o_slices_Clone_byte_byte_2 : List IOper := [⟨(some 2), .mv (.k (.c (.sl none 0 0 false))), none⟩]
abbrev o_slices_Clone_byte_byte_3 : List IOper := [⟨(some 5), .bsl 5 0 [] [], none⟩,
  ⟨(some 6), .mv (.t 0), none⟩,
  ⟨(some 7), .app 5 1 1 (.t 5) (.t 6), none⟩,
  ⟨(some 2), .mv (.t 7), none⟩]
def c_slices_Clone_byte_byte : IC := (.seq (.ops o_slices_Clone_byte_byte_0) (.seq (.seq (.ops o_slices_Clone_byte_byte_1) (.cond (.t 4) (.seq (.ops o_slices_Clone_byte_byte_2) .ret) .skip)) (.seq (.ops o_slices_Clone_byte_byte_3) .ret)))
def i_slices_Clone_byte_byte : IFn := ⟨8, c_slices_Clone_byte_byte, [(2, none)]⟩

-- F 24 (*rota/rotaref07.Bus).owner: bads 0, calls []
abbrev o_rotaref07_Bus_owner_0 : List IOper := [⟨(some 4), .mv (.k (.c (.int .i64 0))), none⟩]
abbrev o_rotaref07_Bus_owner_1 : List IOper := [⟨(some 5), .mv (.t 1), none⟩,
  ⟨(some 6), .bin .lss (.t 5) (.k (.c (.int .i64 0))), none⟩]
abbrev o_rotaref07_Bus_owner_2 : List IOper := [⟨(some 4), .mv (.k (.c (.int .i64 (-1)))), none⟩]
abbrev o_rotaref07_Bus_owner_3 : List IOper := [⟨(some 7), .mv (.t 0), none⟩,
  ⟨(some 8), .nilck (.t 7), none⟩,
  ⟨(some 9), .fa 0 (.t 8), none⟩,
  ⟨(some 10), .ld none (.t 9), none⟩,
  ⟨(some 11), .mv (.t 1), none⟩,
  ⟨(some 12), .mv (.t 0), none⟩,
  ⟨(some 13), .nilck (.t 12), none⟩,
  ⟨(some 14), .fa 0 (.t 13), none⟩,
  ⟨(some 15), .ld none (.t 14), none⟩,
  ⟨(some 16), .len false (.t 15), none⟩,
  ⟨(some 17), .bin .rem (.t 11) (.t 16), none⟩,
  ⟨(some 18), .iaS 1 (.t 10) (.t 17), none⟩,
  ⟨(some 19), .ld none (.t 18), none⟩,
  ⟨(some 4), .mv (.t 19), none⟩]
def c_rotaref07_Bus_owner : IC := (.seq (.ops o_rotaref07_Bus_owner_0) (.seq (.seq (.ops o_rotaref07_Bus_owner_1) (.cond (.t 6) (.seq (.ops o_rotaref07_Bus_owner_2) .ret) .skip)) (.seq (.ops o_rotaref07_Bus_owner_3) .ret)))
def i_rotaref07_Bus_owner : IFn := ⟨20, c_rotaref07_Bus_owner, [(4, none)]⟩

-- F 25 (*rota/bus.Bus).Carry$1: bads 0, calls []
abbrev o_bus_Bus_Carry_1_0 : List IOper := [⟨(some 1), .mv (.k (.c (.sl none 0 0 false))), none⟩]
abbrev o_bus_Bus_Carry_1_1 : List IOper := [⟨(some 2), .bsl 5 0 [] [], none⟩,
  ⟨(some 3), .ld none (.t 0), none⟩,
  ⟨(some 4), .app 5 1 1 (.t 2) (.t 3), none⟩,
  ⟨(some 1), .mv (.t 4), none⟩]
def c_bus_Bus_Carry_1 : IC := (.seq (.ops o_bus_Bus_Carry_1_0) (.seq (.ops o_bus_Bus_Carry_1_1) .ret))
def i_bus_Bus_Carry_1 : IFn := ⟨5, c_bus_Bus_Carry_1, [(1, none)]⟩

-- F 26 (*rota/bus.Bus).owner: bads 0, calls []
abbrev o_bus_Bus_owner_0 : List IOper := [⟨(some 4), .mv (.k (.c (.int .i64 0))), none⟩]
abbrev o_bus_Bus_owner_1 : List IOper := [⟨(some 5), .mv (.t 0), none⟩,
  ⟨(some 6), .eq .ptr false (.t 5) (.k (.c (.ptr none))), none⟩,
  ⟨(some 7), .mv (.t 6), none⟩,
  ⟨(some 8), .mv (.t 1), some (7, false)⟩,
  ⟨(some 9), .bin .lss (.t 8) (.k (.c (.int .i64 0))), some (7, false)⟩,
  ⟨(some 10), .pick (.t 7) (.k (.c (.bool true))) (.t 9), none⟩,
  ⟨(some 11), .mv (.t 10), none⟩,
  ⟨(some 12), .mv (.t 0), some (11, false)⟩,
  ⟨(some 13), .nilck (.t 12), some (11, false)⟩,
  ⟨(some 14), .fa 0 (.t 13), some (11, false)⟩,
  ⟨(some 15), .ld none (.t 14), some (11, false)⟩,
  ⟨(some 16), .len false (.t 15), some (11, false)⟩,
  ⟨(some 17), .bin .eql (.t 16) (.k (.c (.int .i64 0))), some (11, false)⟩,
  ⟨(some 18), .pick (.t 11) (.k (.c (.bool true))) (.t 17), none⟩]
abbrev o_bus_Bus_owner_2 : List IOper := [⟨(some 4), .mv (.k (.c (.int .i64 (-1)))), none⟩]
abbrev o_bus_Bus_owner_3 : List IOper := [⟨(some 19), .mv (.t 0), none⟩,
  ⟨(some 20), .nilck (.t 19), none⟩,
  ⟨(some 21), .fa 0 (.t 20), none⟩,
  ⟨(some 22), .ld none (.t 21), none⟩,
  ⟨(some 23), .mv (.t 1), none⟩,
  ⟨(some 24), .mv (.t 0), none⟩,
  ⟨(some 25), .nilck (.t 24), none⟩,
  ⟨(some 26), .fa 0 (.t 25), none⟩,
  ⟨(some 27), .ld none (.t 26), none⟩,
  ⟨(some 28), .len false (.t 27), none⟩,
  ⟨(some 29), .bin .rem (.t 23) (.t 28), none⟩,
  ⟨(some 30), .iaS 1 (.t 22) (.t 29), none⟩,
  ⟨(some 31), .ld none (.t 30), none⟩,
  ⟨(some 4), .mv (.t 31), none⟩]
def c_bus_Bus_owner : IC := (.seq (.ops o_bus_Bus_owner_0) (.seq (.seq (.ops o_bus_Bus_owner_1) (.cond (.t 18) (.seq (.ops o_bus_Bus_owner_2) .ret) .skip)) (.seq (.ops o_bus_Bus_owner_3) .ret)))
def i_bus_Bus_owner : IFn := ⟨32, c_bus_Bus_owner, [(4, none)]⟩

-- F 27 rota/frame.Corrupt: bads 0, calls [23, 40]
abbrev o_frame_Corrupt_0 : List IOper := [⟨(some 3), .box 44 (.t 0), none⟩,
  ⟨(some 4), .box 3 (.t 1), none⟩,
  ⟨(some 6), .mv (.k (.c (.sl none 0 0 false))), none⟩]
abbrev o_frame_Corrupt_1 : List IOper := [⟨(some 10), .ld none (.t 3), none⟩,
  ⟨(some 11), .call (.k (.c (.fn fn_slices_Clone_byte_byte [] []))) [(.t 10)], none⟩,
  ⟨(some 7), .new 44 (.c (.sl none 0 0 false)), none⟩,
  ⟨none, .st 1 (.t 7) (.t 11), none⟩]
abbrev o_frame_Corrupt_2 : List IOper := [⟨(some 12), .ld none (.t 4), none⟩,
  ⟨(some 13), .bin .lss (.t 12) (.k (.c (.int .i64 (-32)))), none⟩,
  ⟨(some 14), .mv (.t 13), none⟩,
  ⟨(some 15), .ld none (.t 4), some (14, false)⟩,
  ⟨(some 16), .ld none (.t 3), some (14, false)⟩,
  ⟨(some 17), .len false (.t 16), some (14, false)⟩,
  ⟨(some 18), .bin .mul (.k (.c (.int .i64 8))) (.t 17), some (14, false)⟩,
  ⟨(some 19), .bin .gtr (.t 15) (.t 18), some (14, false)⟩,
  ⟨(some 20), .pick (.t 14) (.k (.c (.bool true))) (.t 19), none⟩]
abbrev o_frame_Corrupt_3 : List IOper := [⟨(some 21), .ld none (.t 7), none⟩,
  ⟨(some 6), .mv (.t 21), none⟩]
abbrev o_frame_Corrupt_4 : List IOper := [⟨(some 22), .mv (.t 2), none⟩,
  ⟨(some 23), .call (.k (.c (.fn fn_frame_bits [] []))) [(.t 22)], none⟩]
abbrev o_frame_Corrupt_5 : List IOper := [⟨(some 8), .mv (.t 24), none⟩]
abbrev o_frame_Corrupt_6 : List IOper := [⟨(some 25), .ld none (.t 4), none⟩,
  ⟨(some 26), .mv (.t 8), none⟩,
  ⟨(some 27), .bin .add (.t 25) (.t 26), none⟩,
  ⟨(some 9), .mv (.t 27), none⟩]
abbrev o_frame_Corrupt_7 : List IOper := [⟨(some 28), .mv (.t 9), none⟩,
  ⟨(some 29), .bin .geq (.t 28) (.k (.c (.int .i64 0))), none⟩,
  ⟨(some 30), .mv (.t 29), none⟩,
  ⟨(some 31), .mv (.t 9), some (30, true)⟩,
  ⟨(some 32), .ld none (.t 3), some (30, true)⟩,
  ⟨(some 33), .len false (.t 32), some (30, true)⟩,
  ⟨(some 34), .bin .mul (.k (.c (.int .i64 8))) (.t 33), some (30, true)⟩,
  ⟨(some 35), .bin .lss (.t 31) (.t 34), some (30, true)⟩,
  ⟨(some 36), .pick (.t 30) (.t 35) (.k (.c (.bool false))), none⟩]
abbrev o_frame_Corrupt_8 : List IOper := [⟨(some 37), .ld none (.t 7), none⟩,
  ⟨(some 38), .mv (.t 9), none⟩,
  ⟨(some 39), .bin .quo (.t 38) (.k (.c (.int .i64 8))), none⟩,
  ⟨(some 40), .iaS 1 (.t 37) (.t 39), none⟩,
  ⟨(some 41), .ld none (.t 40), none⟩,
  ⟨(some 42), .mv (.t 9), none⟩,
  ⟨(some 43), .bin .rem (.t 42) (.k (.c (.int .i64 8))), none⟩,
  ⟨(some 44), .bin .shl (.k (.c (.int .u8 1))) (.t 43), none⟩,
  ⟨(some 45), .bin .xor (.t 41) (.t 44), none⟩,
  ⟨(some 46), .iaS 1 (.t 37) (.t 39), none⟩,
  ⟨none, .st 1 (.t 46) (.t 45), none⟩]
def a_frame_Corrupt_9 : IC := (.ops o_frame_Corrupt_5)
def b_frame_Corrupt_10 : IC := (.block 1 (.seq (.ops o_frame_Corrupt_6) (.seq (.ops o_frame_Corrupt_7) (.cond (.t 36) (.ops o_frame_Corrupt_8) .skip))))
abbrev o_frame_Corrupt_11 : List IOper := [⟨(some 47), .ld none (.t 7), none⟩,
  ⟨(some 6), .mv (.t 47), none⟩]
def c_frame_Corrupt : IC := (.seq (.ops o_frame_Corrupt_0) (.seq (.ops o_frame_Corrupt_1) (.seq (.seq (.ops o_frame_Corrupt_2) (.cond (.t 20) (.seq (.ops o_frame_Corrupt_3) .ret) .skip)) (.seq (.seq (.ops o_frame_Corrupt_4) (.block 0 (.rangeF (.t 23) [24] a_frame_Corrupt_9 b_frame_Corrupt_10))) (.seq (.ops o_frame_Corrupt_11) .ret)))))
def i_frame_Corrupt : IFn := ⟨48, c_frame_Corrupt, [(6, none)]⟩

-- F 28 rota/rotaref07.turned: bads 0, calls [41]
abbrev o_rotaref07_turned_0 : List IOper := [⟨(some 6), .mv (.k (.c (.sl none 0 0 false))), none⟩]
abbrev o_rotaref07_turned_1 : List IOper := [⟨(some 7), .mv (.k (.c (.sl none 0 0 false))), none⟩]
abbrev o_rotaref07_turned_2 : List IOper := [⟨(some 8), .mv (.k (.c (.int .i64 0))), none⟩]
abbrev o_rotaref07_turned_3 : List IOper := [⟨(some 15), .mv (.t 8), none⟩,
  ⟨(some 16), .mv (.t 0), none⟩,
  ⟨(some 17), .len false (.t 16), none⟩,
  ⟨(some 18), .bin .lss (.t 15) (.t 17), none⟩]
abbrev o_rotaref07_turned_4 : List IOper := [⟨(some 9), .mv (.k (.c (.int .i64 0))), none⟩]
abbrev o_rotaref07_turned_5 : List IOper := [⟨(some 21), .mv (.t 0), none⟩,
  ⟨(some 22), .mv (.t 8), none⟩,
  ⟨(some 23), .iaS 1 (.t 21) (.t 22), none⟩,
  ⟨(some 24), .ld none (.t 23), none⟩,
  ⟨(some 25), .cv .i64 (.t 24), none⟩,
  ⟨(some 10), .mv (.t 25), none⟩]
abbrev o_rotaref07_turned_6 : List IOper := [⟨(some 11), .mv (.k (.c (.int .i64 1))), none⟩]
abbrev o_rotaref07_turned_7 : List IOper := [⟨(some 12), .mv (.k (.c (.int .i64 0))), none⟩]
abbrev o_rotaref07_turned_8 : List IOper := [⟨(some 26), .mv (.t 12), none⟩,
  ⟨(some 27), .bin .lss (.t 26) (.k (.c (.int .i64 8))), none⟩]
abbrev o_rotaref07_turned_9 : List IOper := [⟨(some 30), .mv (.t 10), none⟩,
  ⟨(some 31), .bin .rem (.t 30) (.k (.c (.int .i64 2))), none⟩,
  ⟨(some 32), .bin .eql (.t 31) (.k (.c (.int .i64 1))), none⟩,
  ⟨(some 13), .mv (.t 32), none⟩]
abbrev o_rotaref07_turned_10 : List IOper := [⟨(some 33), .mv (.t 10), none⟩,
  ⟨(some 34), .bin .quo (.t 33) (.k (.c (.int .i64 2))), none⟩,
  ⟨(some 10), .mv (.t 34), none⟩]
abbrev o_rotaref07_turned_11 : List IOper := [⟨(some 35), .mv (.t 8), none⟩,
  ⟨(some 36), .bin .mul (.k (.c (.int .i64 8))) (.t 35), none⟩,
  ⟨(some 37), .mv (.t 12), none⟩,
  ⟨(some 38), .bin .add (.t 36) (.t 37), none⟩,
  ⟨(some 14), .mv (.t 38), none⟩]
abbrev o_rotaref07_turned_12 : List IOper := [⟨(some 39), .mv (.t 14), none⟩,
  ⟨(some 40), .mv (.t 1), none⟩,
  ⟨(some 41), .bin .geq (.t 39) (.t 40), none⟩,
  ⟨(some 42), .mv (.t 41), none⟩,
  ⟨(some 43), .mv (.t 14), some (42, true)⟩,
  ⟨(some 44), .mv (.t 1), some (42, true)⟩,
  ⟨(some 45), .bin .sub (.t 43) (.t 44), some (42, true)⟩,
  ⟨(some 46), .bin .lss (.t 45) (.k (.c (.int .i64 32))), some (42, true)⟩,
  ⟨(some 47), .pick (.t 42) (.t 46) (.k (.c (.bool false))), none⟩,
  ⟨(some 48), .mv (.t 47), none⟩,
  ⟨(some 49), .mv (.t 14), some (48, true)⟩,
  ⟨(some 50), .mv (.t 1), some (48, true)⟩,
  ⟨(some 51), .bin .sub (.t 49) (.t 50), some (48, true)⟩,
  ⟨(some 52), .bin .geq (.t 51) (.k (.c (.int .i64 0))), some (48, true)⟩,
  ⟨(some 53), .pick (.t 48) (.t 52) (.k (.c (.bool false))), none⟩,
  ⟨(some 54), .mv (.t 53), none⟩,
  ⟨(some 55), .mv (.t 2), some (54, true)⟩,
  ⟨(some 56), .mv (.t 14), some (54, true)⟩,
  ⟨(some 57), .mv (.t 1), some (54, true)⟩,
  ⟨(some 58), .bin .sub (.t 56) (.t 57), some (54, true)⟩,
  ⟨(some 59), .call (.k (.c (.fn fn_rotaref07_bit [] []))) [(.t 55), (.t 58)], some (54, true)⟩,
  ⟨(some 60), .pick (.t 54) (.t 59) (.k (.c (.bool false))), none⟩]
abbrev o_rotaref07_turned_13 : List IOper := [⟨(some 61), .mv (.t 13), none⟩,
  ⟨(some 62), .un .not (.t 61), none⟩,
  ⟨(some 13), .mv (.t 62), none⟩]
abbrev o_rotaref07_turned_14 : List IOper := [⟨(some 63), .mv (.t 13), none⟩]
abbrev o_rotaref07_turned_15 : List IOper := [⟨(some 64), .mv (.t 9), none⟩,
  ⟨(some 65), .mv (.t 11), none⟩,
  ⟨(some 66), .bin .add (.t 64) (.t 65), none⟩,
  ⟨(some 9), .mv (.t 66), none⟩]
abbrev o_rotaref07_turned_16 : List IOper := [⟨(some 67), .mv (.t 11), none⟩,
  ⟨(some 68), .bin .mul (.k (.c (.int .i64 2))) (.t 67), none⟩,
  ⟨(some 11), .mv (.t 68), none⟩]
abbrev o_rotaref07_turned_17 : List IOper := [⟨(some 28), .mv (.t 12), none⟩,
  ⟨(some 29), .bin .add (.t 28) (.k (.c (.int .i64 1))), none⟩,
  ⟨(some 12), .mv (.t 29), none⟩]
def b_rotaref07_turned_18 : IC := (.seq (.seq (.ops o_rotaref07_turned_8) (.cond (.t 27) .skip (.exit 2))) (.seq (.block 3 (.seq (.ops o_rotaref07_turned_9) (.seq (.ops o_rotaref07_turned_10) (.seq (.ops o_rotaref07_turned_11) (.seq (.seq (.ops o_rotaref07_turned_12) (.cond (.t 60) (.ops o_rotaref07_turned_13) .skip)) (.seq (.seq (.ops o_rotaref07_turned_14) (.cond (.t 63) (.ops o_rotaref07_turned_15) .skip)) (.ops o_rotaref07_turned_16))))))) (.ops o_rotaref07_turned_17)))
abbrev o_rotaref07_turned_19 : List IOper := [⟨(some 69), .mv (.t 7), none⟩,
  ⟨(some 70), .mv (.t 9), none⟩,
  ⟨(some 71), .cv .u8 (.t 70), none⟩,
  ⟨(some 72), .bsl 5 1 [(.int .u8 0)] [(0, 1, (.t 71))], none⟩,
  ⟨(some 73), .app 5 1 1 (.t 69) (.t 72), none⟩,
  ⟨(some 7), .mv (.t 73), none⟩]
abbrev o_rotaref07_turned_20 : List IOper := [⟨(some 19), .mv (.t 8), none⟩,
  ⟨(some 20), .bin .add (.t 19) (.k (.c (.int .i64 1))), none⟩,
  ⟨(some 8), .mv (.t 20), none⟩]
def b_rotaref07_turned_21 : IC := (.seq (.seq (.ops o_rotaref07_turned_3) (.cond (.t 18) .skip (.exit 0))) (.seq (.block 1 (.seq (.ops o_rotaref07_turned_4) (.seq (.ops o_rotaref07_turned_5) (.seq (.ops o_rotaref07_turned_6) (.seq (.seq (.ops o_rotaref07_turned_7) (.block 2 (.loop b_rotaref07_turned_18))) (.ops o_rotaref07_turned_19)))))) (.ops o_rotaref07_turned_20)))
abbrev o_rotaref07_turned_22 : List IOper := [⟨(some 74), .mv (.t 7), none⟩,
  ⟨(some 6), .mv (.t 74), none⟩]
def c_rotaref07_turned : IC := (.seq (.ops o_rotaref07_turned_0) (.seq (.ops o_rotaref07_turned_1) (.seq (.seq (.ops o_rotaref07_turned_2) (.block 0 (.loop b_rotaref07_turned_21))) (.seq (.ops o_rotaref07_turned_22) .ret))))
def i_rotaref07_turned : IFn := ⟨75, c_rotaref07_turned, [(6, none)]⟩

-- F 29 (*sync/atomic.Uint64).Load: bads 0, calls [42]
abbrev o_atomic_Uint64_Load_0 : List IOper := [⟨(some 2), .mv (.k (.c (.int .u64 0))), none⟩]
abbrev o_atomic_Uint64_Load_1 : List IOper := [⟨(some 3), .mv (.t 0), none⟩,
  ⟨(some 4), .nilck (.t 3), none⟩,
  ⟨(some 5), .fa 0 (.t 4), none⟩,
  ⟨(some 6), .call (.k (.c (.fn fn_atomic_LoadUint64 [] []))) [(.t 5)], none⟩,
  ⟨(some 2), .mv (.t 6), none⟩]
def c_atomic_Uint64_Load : IC := (.seq (.ops o_atomic_Uint64_Load_0) (.seq (.ops o_atomic_Uint64_Load_1) .ret))
def i_atomic_Uint64_Load : IFn := ⟨7, c_atomic_Uint64_Load, [(2, none)]⟩

-- F 30 rota/config.fine: bads 0, calls [43, 44, 45, 46, 47, 48]
abbrev o_config_fine_0 : List IOper := [⟨(some 3), .box 28 (.t 1), none⟩,
  ⟨(some 4), .mv (.k (.c (.bool false))), none⟩]
abbrev o_config_fine_1 : List IOper := [⟨(some 5), .mv (.t 0), none⟩]
abbrev o_config_fine_2 : List IOper := [⟨(some 7), .bin .eql (.t 5) (.k (.c (.int .i64 21))), none⟩,
  ⟨(some 6), .mv (.t 7), none⟩]
abbrev o_config_fine_3 : List IOper := [⟨(some 8), .ld (some 12) (.t 3), none⟩,
  ⟨(some 9), .call (.k (.c (.fn fn_config_nodes [] []))) [(.t 8)], none⟩,
  ⟨(some 4), .mv (.t 9), none⟩]
abbrev o_config_fine_4 : List IOper := [⟨(some 11), .bin .eql (.t 5) (.k (.c (.int .i64 22))), none⟩,
  ⟨(some 10), .mv (.t 11), none⟩]
abbrev o_config_fine_5 : List IOper := [⟨(some 12), .ld (some 12) (.t 3), none⟩,
  ⟨(some 13), .call (.k (.c (.fn fn_config_clocks [] []))) [(.t 12)], none⟩,
  ⟨(some 4), .mv (.t 13), none⟩]
abbrev o_config_fine_6 : List IOper := [⟨(some 15), .bin .eql (.t 5) (.k (.c (.int .i64 23))), none⟩,
  ⟨(some 14), .mv (.t 15), none⟩]
abbrev o_config_fine_7 : List IOper := [⟨(some 16), .ld (some 12) (.t 3), none⟩,
  ⟨(some 17), .call (.k (.c (.fn fn_config_parts [] []))) [(.t 16)], none⟩,
  ⟨(some 4), .mv (.t 17), none⟩]
abbrev o_config_fine_8 : List IOper := [⟨(some 19), .bin .eql (.t 5) (.k (.c (.int .i64 24))), none⟩,
  ⟨(some 18), .mv (.t 19), none⟩]
abbrev o_config_fine_9 : List IOper := [⟨(some 20), .ld (some 12) (.t 3), none⟩,
  ⟨(some 21), .call (.k (.c (.fn fn_config_windows [] []))) [(.t 20)], none⟩,
  ⟨(some 4), .mv (.t 21), none⟩]
abbrev o_config_fine_10 : List IOper := [⟨(some 23), .bin .eql (.t 5) (.k (.c (.int .i64 25))), none⟩,
  ⟨(some 22), .mv (.t 23), none⟩]
abbrev o_config_fine_11 : List IOper := [⟨(some 24), .ld (some 12) (.t 3), none⟩,
  ⟨(some 25), .call (.k (.c (.fn fn_config_ports [] []))) [(.t 24)], none⟩,
  ⟨(some 4), .mv (.t 25), none⟩]
abbrev o_config_fine_12 : List IOper := [⟨(some 26), .ld (some 12) (.t 3), none⟩,
  ⟨(some 27), .call (.k (.c (.fn fn_config_links [] []))) [(.t 26)], none⟩,
  ⟨(some 4), .mv (.t 27), none⟩]
def c_config_fine : IC := (.seq (.ops o_config_fine_0) (.seq (.seq (.ops o_config_fine_1) (.block 0 (.seq (.ops o_config_fine_2) (.cond (.t 6) (.seq (.ops o_config_fine_3) .ret) (.seq (.ops o_config_fine_4) (.cond (.t 10) (.seq (.ops o_config_fine_5) .ret) (.seq (.ops o_config_fine_6) (.cond (.t 14) (.seq (.ops o_config_fine_7) .ret) (.seq (.ops o_config_fine_8) (.cond (.t 18) (.seq (.ops o_config_fine_9) .ret) (.seq (.ops o_config_fine_10) (.cond (.t 22) (.seq (.ops o_config_fine_11) .ret) .skip)))))))))))) (.seq (.ops o_config_fine_12) .ret)))
def i_config_fine : IFn := ⟨28, c_config_fine, [(4, none)]⟩

-- F 31 rota/rotaref02.nodes: bads 0, calls [49]
abbrev o_rotaref02_nodes_0 : List IOper := [⟨(some 1), .box 28 (.t 0), none⟩,
  ⟨(some 2), .mv (.k (.c (.bool false))), none⟩]
abbrev o_rotaref02_nodes_1 : List IOper := [⟨(some 4), .fa 0 (.t 1), none⟩,
  ⟨(some 5), .ld none (.t 4), none⟩,
  ⟨(some 6), .bin .lss (.t 5) (.k (.c (.int .i64 4))), none⟩,
  ⟨(some 7), .mv (.t 6), none⟩,
  ⟨(some 8), .fa 0 (.t 1), some (7, false)⟩,
  ⟨(some 9), .ld none (.t 8), some (7, false)⟩,
  ⟨(some 10), .bin .gtr (.t 9) (.k (.c (.int .i64 16))), some (7, false)⟩,
  ⟨(some 11), .pick (.t 7) (.k (.c (.bool true))) (.t 10), none⟩,
  ⟨(some 12), .mv (.t 11), none⟩,
  ⟨(some 13), .fa 1 (.t 1), some (12, false)⟩,
  ⟨(some 14), .ld none (.t 13), some (12, false)⟩,
  ⟨(some 15), .len false (.t 14), some (12, false)⟩,
  ⟨(some 16), .fa 0 (.t 1), some (12, false)⟩,
  ⟨(some 17), .ld none (.t 16), some (12, false)⟩,
  ⟨(some 18), .bin .neq (.t 15) (.t 17), some (12, false)⟩,
  ⟨(some 19), .pick (.t 12) (.k (.c (.bool true))) (.t 18), none⟩]
abbrev o_rotaref02_nodes_2 : List IOper := [⟨(some 2), .mv (.k (.c (.bool false))), none⟩]
abbrev o_rotaref02_nodes_3 : List IOper := [⟨(some 3), .mv (.k (.c (.int .i64 0))), none⟩]
abbrev o_rotaref02_nodes_4 : List IOper := [⟨(some 20), .mv (.t 3), none⟩,
  ⟨(some 21), .fa 0 (.t 1), none⟩,
  ⟨(some 22), .ld none (.t 21), none⟩,
  ⟨(some 23), .bin .lss (.t 20) (.t 22), none⟩]
abbrev o_rotaref02_nodes_5 : List IOper := [⟨(some 26), .fa 1 (.t 1), none⟩,
  ⟨(some 27), .ld none (.t 26), none⟩,
  ⟨(some 28), .mv (.t 3), none⟩,
  ⟨(some 29), .call (.k (.c (.fn fn_rotaref02_count [] []))) [(.t 27), (.t 28)], none⟩,
  ⟨(some 30), .bin .neq (.t 29) (.k (.c (.int .i64 1))), none⟩]
abbrev o_rotaref02_nodes_6 : List IOper := [⟨(some 2), .mv (.k (.c (.bool false))), none⟩]
abbrev o_rotaref02_nodes_7 : List IOper := [⟨(some 24), .mv (.t 3), none⟩,
  ⟨(some 25), .bin .add (.t 24) (.k (.c (.int .i64 1))), none⟩,
  ⟨(some 3), .mv (.t 25), none⟩]
def b_rotaref02_nodes_8 : IC := (.seq (.seq (.ops o_rotaref02_nodes_4) (.cond (.t 23) .skip (.exit 0))) (.seq (.block 1 (.seq (.ops o_rotaref02_nodes_5) (.cond (.t 30) (.seq (.ops o_rotaref02_nodes_6) .ret) .skip))) (.ops o_rotaref02_nodes_7)))
abbrev o_rotaref02_nodes_9 : List IOper := [⟨(some 2), .mv (.k (.c (.bool true))), none⟩]
def c_rotaref02_nodes : IC := (.seq (.ops o_rotaref02_nodes_0) (.seq (.seq (.ops o_rotaref02_nodes_1) (.cond (.t 19) (.seq (.ops o_rotaref02_nodes_2) .ret) .skip)) (.seq (.seq (.ops o_rotaref02_nodes_3) (.block 0 (.loop b_rotaref02_nodes_8))) (.seq (.ops o_rotaref02_nodes_9) .ret))))
def i_rotaref02_nodes : IFn := ⟨31, c_rotaref02_nodes, [(2, none)]⟩

-- F 32 rota/rotaref02.clock: bads 0, calls [50, 50]
abbrev o_rotaref02_clock_0 : List IOper := [⟨(some 1), .box 28 (.t 0), none⟩,
  ⟨(some 2), .mv (.k (.c (.bool false))), none⟩]
abbrev o_rotaref02_clock_1 : List IOper := [⟨(some 4), .fa 2 (.t 1), none⟩,
  ⟨(some 5), .ld none (.t 4), none⟩,
  ⟨(some 6), .bin .lss (.t 5) (.k (.c (.int .i64 0))), none⟩,
  ⟨(some 7), .mv (.t 6), none⟩,
  ⟨(some 8), .fa 2 (.t 1), some (7, false)⟩,
  ⟨(some 9), .ld none (.t 8), some (7, false)⟩,
  ⟨(some 10), .bin .gtr (.t 9) (.k (.c (.int .i64 1048576))), some (7, false)⟩,
  ⟨(some 11), .pick (.t 7) (.k (.c (.bool true))) (.t 10), none⟩,
  ⟨(some 12), .mv (.t 11), none⟩,
  ⟨(some 13), .fa 3 (.t 1), some (12, false)⟩,
  ⟨(some 14), .ld none (.t 13), some (12, false)⟩,
  ⟨(some 15), .bin .lss (.t 14) (.k (.c (.int .i64 0))), some (12, false)⟩,
  ⟨(some 16), .pick (.t 12) (.k (.c (.bool true))) (.t 15), none⟩,
  ⟨(some 17), .mv (.t 16), none⟩,
  ⟨(some 18), .fa 3 (.t 1), some (17, false)⟩,
  ⟨(some 19), .ld none (.t 18), some (17, false)⟩,
  ⟨(some 20), .bin .gtr (.t 19) (.k (.c (.int .i64 1048576))), some (17, false)⟩,
  ⟨(some 21), .pick (.t 17) (.k (.c (.bool true))) (.t 20), none⟩]
abbrev o_rotaref02_clock_2 : List IOper := [⟨(some 2), .mv (.k (.c (.bool false))), none⟩]
abbrev o_rotaref02_clock_3 : List IOper := [⟨(some 27), .fa 3 (.t 1), none⟩,
  ⟨(some 28), .ld none (.t 27), none⟩,
  ⟨(some 24), .ld (some 12) (.t 1), none⟩,
  ⟨(some 22), .ld (some 12) (.t 1), none⟩,
  ⟨(some 23), .call (.k (.c (.fn fn_rotaref02_Precision [] []))) [(.t 22)], none⟩,
  ⟨none, .same (some none) (.t 27) (.t 28), none⟩,
  ⟨none, .same (some (some 12)) (.t 1) (.t 24), none⟩,
  ⟨(some 25), .call (.k (.c (.fn fn_rotaref02_Precision [] []))) [(.t 24)], none⟩,
  ⟨none, .same (some none) (.t 27) (.t 28), none⟩,
  ⟨(some 26), .bin .add (.t 23) (.t 25), none⟩,
  ⟨(some 29), .bin .add (.t 26) (.t 28), none⟩,
  ⟨(some 3), .mv (.t 29), none⟩]
abbrev o_rotaref02_clock_4 : List IOper := [⟨(some 30), .fa 4 (.t 1), none⟩,
  ⟨(some 31), .ld none (.t 30), none⟩,
  ⟨(some 32), .mv (.t 3), none⟩,
  ⟨(some 33), .bin .geq (.t 31) (.t 32), none⟩,
  ⟨(some 34), .mv (.t 33), none⟩,
  ⟨(some 35), .fa 4 (.t 1), some (34, true)⟩,
  ⟨(some 36), .ld none (.t 35), some (34, true)⟩,
  ⟨(some 37), .bin .leq (.t 36) (.k (.c (.int .i64 16777216))), some (34, true)⟩,
  ⟨(some 38), .pick (.t 34) (.t 37) (.k (.c (.bool false))), none⟩,
  ⟨(some 39), .mv (.t 38), none⟩,
  ⟨(some 40), .fa 5 (.t 1), some (39, true)⟩,
  ⟨(some 41), .ld none (.t 40), some (39, true)⟩,
  ⟨(some 42), .mv (.t 3), some (39, true)⟩,
  ⟨(some 43), .bin .geq (.t 41) (.t 42), some (39, true)⟩,
  ⟨(some 44), .pick (.t 39) (.t 43) (.k (.c (.bool false))), none⟩,
  ⟨(some 45), .mv (.t 44), none⟩,
  ⟨(some 46), .fa 5 (.t 1), some (45, true)⟩,
  ⟨(some 47), .ld none (.t 46), some (45, true)⟩,
  ⟨(some 48), .bin .leq (.t 47) (.k (.c (.int .i64 16777216))), some (45, true)⟩,
  ⟨(some 49), .pick (.t 45) (.t 48) (.k (.c (.bool false))), none⟩,
  ⟨(some 50), .mv (.t 49), none⟩,
  ⟨(some 51), .fa 6 (.t 1), some (50, true)⟩,
  ⟨(some 52), .ld none (.t 51), some (50, true)⟩,
  ⟨(some 53), .bin .geq (.t 52) (.k (.c (.int .i64 1))), some (50, true)⟩,
  ⟨(some 54), .pick (.t 50) (.t 53) (.k (.c (.bool false))), none⟩,
  ⟨(some 55), .mv (.t 54), none⟩,
  ⟨(some 56), .fa 6 (.t 1), some (55, true)⟩,
  ⟨(some 57), .ld none (.t 56), some (55, true)⟩,
  ⟨(some 58), .bin .leq (.t 57) (.k (.c (.int .i64 8))), some (55, true)⟩,
  ⟨(some 59), .pick (.t 55) (.t 58) (.k (.c (.bool false))), none⟩,
  ⟨(some 60), .mv (.t 59), none⟩,
  ⟨(some 61), .fa 7 (.t 1), some (60, true)⟩,
  ⟨(some 62), .ld none (.t 61), some (60, true)⟩,
  ⟨(some 63), .bin .geq (.t 62) (.k (.c (.int .i64 1))), some (60, true)⟩,
  ⟨(some 64), .pick (.t 60) (.t 63) (.k (.c (.bool false))), none⟩,
  ⟨(some 65), .mv (.t 64), none⟩,
  ⟨(some 66), .fa 7 (.t 1), some (65, true)⟩,
  ⟨(some 67), .ld none (.t 66), some (65, true)⟩,
  ⟨(some 68), .bin .leq (.t 67) (.k (.c (.int .i64 16))), some (65, true)⟩,
  ⟨(some 69), .pick (.t 65) (.t 68) (.k (.c (.bool false))), none⟩,
  ⟨(some 2), .mv (.t 69), none⟩]
def c_rotaref02_clock : IC := (.seq (.ops o_rotaref02_clock_0) (.seq (.seq (.ops o_rotaref02_clock_1) (.cond (.t 21) (.seq (.ops o_rotaref02_clock_2) .ret) .skip)) (.seq (.ops o_rotaref02_clock_3) (.seq (.ops o_rotaref02_clock_4) .ret))))
def i_rotaref02_clock : IFn := ⟨70, c_rotaref02_clock, [(2, none)]⟩

-- F 33 rota/rotaref02.parts: bads 0, calls [51]
abbrev o_rotaref02_parts_0 : List IOper := [⟨(some 1), .box 28 (.t 0), none⟩,
  ⟨(some 2), .mv (.k (.c (.bool false))), none⟩]
abbrev o_rotaref02_parts_1 : List IOper := [⟨(some 9), .fa 8 (.t 1), none⟩,
  ⟨(some 10), .ld none (.t 9), none⟩,
  ⟨(some 11), .len false (.t 10), none⟩,
  ⟨(some 12), .bin .gtr (.t 11) (.k (.c (.int .i64 32))), none⟩]
abbrev o_rotaref02_parts_2 : List IOper := [⟨(some 2), .mv (.k (.c (.bool false))), none⟩]
abbrev o_rotaref02_parts_3 : List IOper := [⟨(some 3), .mv (.k (.c (.int .i64 0))), none⟩]
abbrev o_rotaref02_parts_4 : List IOper := [⟨(some 13), .mv (.t 3), none⟩,
  ⟨(some 14), .fa 8 (.t 1), none⟩,
  ⟨(some 15), .ld none (.t 14), none⟩,
  ⟨(some 16), .len false (.t 15), none⟩,
  ⟨(some 17), .bin .lss (.t 13) (.t 16), none⟩]
abbrev o_rotaref02_parts_5 : List IOper := [⟨(some 20), .fa 8 (.t 1), none⟩,
  ⟨(some 21), .ld none (.t 20), none⟩,
  ⟨(some 22), .mv (.t 3), none⟩,
  ⟨(some 23), .iaS 3 (.t 21) (.t 22), none⟩,
  ⟨(some 24), .ld (some 3) (.t 23), none⟩,
  ⟨(some 4), .new 94 (.agg [(.int .i64 0), (.int .i64 0), (.int .i64 0)]), none⟩,
  ⟨none, .st 3 (.t 4) (.t 24), none⟩]
abbrev o_rotaref02_parts_6 : List IOper := [⟨(some 25), .fa 0 (.t 4), none⟩,
  ⟨(some 26), .ld none (.t 25), none⟩,
  ⟨(some 27), .bin .lss (.t 26) (.k (.c (.int .i64 0))), none⟩,
  ⟨(some 28), .mv (.t 27), none⟩,
  ⟨(some 29), .fa 0 (.t 4), some (28, false)⟩,
  ⟨(some 30), .ld none (.t 29), some (28, false)⟩,
  ⟨(some 31), .fa 0 (.t 1), some (28, false)⟩,
  ⟨(some 32), .ld none (.t 31), some (28, false)⟩,
  ⟨(some 33), .bin .geq (.t 30) (.t 32), some (28, false)⟩,
  ⟨(some 34), .pick (.t 28) (.k (.c (.bool true))) (.t 33), none⟩,
  ⟨(some 35), .mv (.t 34), none⟩,
  ⟨(some 36), .fa 1 (.t 4), some (35, false)⟩,
  ⟨(some 37), .ld none (.t 36), some (35, false)⟩,
  ⟨(some 38), .bin .lss (.t 37) (.k (.c (.int .i64 0))), some (35, false)⟩,
  ⟨(some 39), .pick (.t 35) (.k (.c (.bool true))) (.t 38), none⟩,
  ⟨(some 40), .mv (.t 39), none⟩,
  ⟨(some 41), .fa 1 (.t 4), some (40, false)⟩,
  ⟨(some 42), .ld none (.t 41), some (40, false)⟩,
  ⟨(some 43), .fa 2 (.t 4), some (40, false)⟩,
  ⟨(some 44), .ld none (.t 43), some (40, false)⟩,
  ⟨(some 45), .bin .gtr (.t 42) (.t 44), some (40, false)⟩,
  ⟨(some 46), .pick (.t 40) (.k (.c (.bool true))) (.t 45), none⟩,
  ⟨(some 47), .mv (.t 46), none⟩,
  ⟨(some 48), .fa 2 (.t 4), some (47, false)⟩,
  ⟨(some 49), .ld none (.t 48), some (47, false)⟩,
  ⟨(some 50), .bin .gtr (.t 49) (.k (.c (.int .i64 256))), some (47, false)⟩,
  ⟨(some 51), .pick (.t 47) (.k (.c (.bool true))) (.t 50), none⟩]
abbrev o_rotaref02_parts_7 : List IOper := [⟨(some 2), .mv (.k (.c (.bool false))), none⟩]
abbrev o_rotaref02_parts_8 : List IOper := [⟨(some 18), .mv (.t 3), none⟩,
  ⟨(some 19), .bin .add (.t 18) (.k (.c (.int .i64 1))), none⟩,
  ⟨(some 3), .mv (.t 19), none⟩]
def b_rotaref02_parts_9 : IC := (.seq (.seq (.ops o_rotaref02_parts_4) (.cond (.t 17) .skip (.exit 0))) (.seq (.block 1 (.seq (.ops o_rotaref02_parts_5) (.seq (.ops o_rotaref02_parts_6) (.cond (.t 51) (.seq (.ops o_rotaref02_parts_7) .ret) .skip)))) (.ops o_rotaref02_parts_8)))
abbrev o_rotaref02_parts_10 : List IOper := [⟨(some 5), .mv (.k (.c (.int .i64 0))), none⟩]
abbrev o_rotaref02_parts_11 : List IOper := [⟨(some 52), .mv (.t 5), none⟩,
  ⟨(some 53), .fa 8 (.t 1), none⟩,
  ⟨(some 54), .ld none (.t 53), none⟩,
  ⟨(some 55), .len false (.t 54), none⟩,
  ⟨(some 56), .bin .lss (.t 52) (.t 55), none⟩]
abbrev o_rotaref02_parts_12 : List IOper := [⟨(some 6), .mv (.k (.c (.int .i64 0))), none⟩]
abbrev o_rotaref02_parts_13 : List IOper := [⟨(some 59), .mv (.t 6), none⟩,
  ⟨(some 60), .mv (.t 5), none⟩,
  ⟨(some 61), .bin .lss (.t 59) (.t 60), none⟩]
abbrev o_rotaref02_parts_14 : List IOper := [⟨(some 64), .fa 8 (.t 1), none⟩,
  ⟨(some 65), .ld none (.t 64), none⟩,
  ⟨(some 66), .mv (.t 5), none⟩,
  ⟨(some 67), .iaS 3 (.t 65) (.t 66), none⟩,
  ⟨(some 68), .ld (some 3) (.t 67), none⟩,
  ⟨(some 7), .new 94 (.agg [(.int .i64 0), (.int .i64 0), (.int .i64 0)]), none⟩,
  ⟨none, .st 3 (.t 7) (.t 68), none⟩]
abbrev o_rotaref02_parts_15 : List IOper := [⟨(some 69), .fa 8 (.t 1), none⟩,
  ⟨(some 70), .ld none (.t 69), none⟩,
  ⟨(some 71), .mv (.t 6), none⟩,
  ⟨(some 72), .iaS 3 (.t 70) (.t 71), none⟩,
  ⟨(some 73), .ld (some 3) (.t 72), none⟩,
  ⟨(some 8), .new 94 (.agg [(.int .i64 0), (.int .i64 0), (.int .i64 0)]), none⟩,
  ⟨none, .st 3 (.t 8) (.t 73), none⟩]
abbrev o_rotaref02_parts_16 : List IOper := [⟨(some 74), .fa 0 (.t 7), none⟩,
  ⟨(some 75), .ld none (.t 74), none⟩,
  ⟨(some 76), .fa 0 (.t 8), none⟩,
  ⟨(some 77), .ld none (.t 76), none⟩,
  ⟨(some 78), .bin .eql (.t 75) (.t 77), none⟩,
  ⟨(some 79), .mv (.t 78), none⟩,
  ⟨(some 80), .fa 1 (.t 7), some (79, true)⟩,
  ⟨(some 81), .ld none (.t 80), some (79, true)⟩,
  ⟨(some 82), .fa 2 (.t 7), some (79, true)⟩,
  ⟨(some 83), .ld none (.t 82), some (79, true)⟩,
  ⟨(some 84), .fa 1 (.t 8), some (79, true)⟩,
  ⟨(some 85), .ld none (.t 84), some (79, true)⟩,
  ⟨(some 86), .fa 2 (.t 8), some (79, true)⟩,
  ⟨(some 87), .ld none (.t 86), some (79, true)⟩,
  ⟨(some 88), .call (.k (.c (.fn fn_rotaref02_meet [] []))) [(.t 81), (.t 83), (.t 85), (.t 87)], some (79, true)⟩,
  ⟨(some 89), .pick (.t 79) (.t 88) (.k (.c (.bool false))), none⟩]
abbrev o_rotaref02_parts_17 : List IOper := [⟨(some 2), .mv (.k (.c (.bool false))), none⟩]
abbrev o_rotaref02_parts_18 : List IOper := [⟨(some 62), .mv (.t 6), none⟩,
  ⟨(some 63), .bin .add (.t 62) (.k (.c (.int .i64 1))), none⟩,
  ⟨(some 6), .mv (.t 63), none⟩]
def b_rotaref02_parts_19 : IC := (.seq (.seq (.ops o_rotaref02_parts_13) (.cond (.t 61) .skip (.exit 4))) (.seq (.block 5 (.seq (.ops o_rotaref02_parts_14) (.seq (.ops o_rotaref02_parts_15) (.seq (.ops o_rotaref02_parts_16) (.cond (.t 89) (.seq (.ops o_rotaref02_parts_17) .ret) .skip))))) (.ops o_rotaref02_parts_18)))
abbrev o_rotaref02_parts_20 : List IOper := [⟨(some 57), .mv (.t 5), none⟩,
  ⟨(some 58), .bin .add (.t 57) (.k (.c (.int .i64 1))), none⟩,
  ⟨(some 5), .mv (.t 58), none⟩]
def b_rotaref02_parts_21 : IC := (.seq (.seq (.ops o_rotaref02_parts_11) (.cond (.t 56) .skip (.exit 2))) (.seq (.block 3 (.seq (.ops o_rotaref02_parts_12) (.block 4 (.loop b_rotaref02_parts_19)))) (.ops o_rotaref02_parts_20)))
abbrev o_rotaref02_parts_22 : List IOper := [⟨(some 2), .mv (.k (.c (.bool true))), none⟩]
def c_rotaref02_parts : IC := (.seq (.ops o_rotaref02_parts_0) (.seq (.seq (.ops o_rotaref02_parts_1) (.cond (.t 12) (.seq (.ops o_rotaref02_parts_2) .ret) .skip)) (.seq (.seq (.ops o_rotaref02_parts_3) (.block 0 (.loop b_rotaref02_parts_9))) (.seq (.seq (.ops o_rotaref02_parts_10) (.block 2 (.loop b_rotaref02_parts_21))) (.seq (.ops o_rotaref02_parts_22) .ret)))))
def i_rotaref02_parts : IFn := ⟨90, c_rotaref02_parts, [(2, none)]⟩

-- F 34 rota/rotaref02.windows: bads 0, calls []
abbrev o_rotaref02_windows_0 : List IOper := [⟨(some 1), .box 28 (.t 0), none⟩,
  ⟨(some 2), .mv (.k (.c (.bool false))), none⟩]
abbrev o_rotaref02_windows_1 : List IOper := [⟨(some 6), .fa 9 (.t 1), none⟩,
  ⟨(some 7), .ld none (.t 6), none⟩,
  ⟨(some 8), .len false (.t 7), none⟩,
  ⟨(some 9), .fa 0 (.t 1), none⟩,
  ⟨(some 10), .ld none (.t 9), none⟩,
  ⟨(some 11), .bin .neq (.t 8) (.t 10), none⟩]
abbrev o_rotaref02_windows_2 : List IOper := [⟨(some 2), .mv (.k (.c (.bool false))), none⟩]
abbrev o_rotaref02_windows_3 : List IOper := [⟨(some 3), .mv (.k (.c (.int .i64 0))), none⟩]
abbrev o_rotaref02_windows_4 : List IOper := [⟨(some 12), .mv (.t 3), none⟩,
  ⟨(some 13), .fa 0 (.t 1), none⟩,
  ⟨(some 14), .ld none (.t 13), none⟩,
  ⟨(some 15), .bin .lss (.t 12) (.t 14), none⟩]
abbrev o_rotaref02_windows_5 : List IOper := [⟨(some 18), .fa 9 (.t 1), none⟩,
  ⟨(some 19), .ld none (.t 18), none⟩,
  ⟨(some 20), .mv (.t 3), none⟩,
  ⟨(some 21), .iaS 1 (.t 19) (.t 20), none⟩,
  ⟨(some 22), .ld none (.t 21), none⟩,
  ⟨(some 23), .len false (.t 22), none⟩,
  ⟨(some 24), .fa 0 (.t 1), none⟩,
  ⟨(some 25), .ld none (.t 24), none⟩,
  ⟨(some 26), .bin .neq (.t 23) (.t 25), none⟩]
abbrev o_rotaref02_windows_6 : List IOper := [⟨(some 2), .mv (.k (.c (.bool false))), none⟩]
abbrev o_rotaref02_windows_7 : List IOper := [⟨(some 4), .mv (.k (.c (.int .i64 0))), none⟩]
abbrev o_rotaref02_windows_8 : List IOper := [⟨(some 27), .mv (.t 4), none⟩,
  ⟨(some 28), .fa 0 (.t 1), none⟩,
  ⟨(some 29), .ld none (.t 28), none⟩,
  ⟨(some 30), .bin .lss (.t 27) (.t 29), none⟩]
abbrev o_rotaref02_windows_9 : List IOper := [⟨(some 33), .fa 9 (.t 1), none⟩,
  ⟨(some 34), .ld none (.t 33), none⟩,
  ⟨(some 35), .mv (.t 3), none⟩,
  ⟨(some 36), .iaS 1 (.t 34) (.t 35), none⟩,
  ⟨(some 37), .ld none (.t 36), none⟩,
  ⟨(some 38), .mv (.t 4), none⟩,
  ⟨(some 39), .iaS 1 (.t 37) (.t 38), none⟩,
  ⟨(some 40), .ld none (.t 39), none⟩,
  ⟨(some 5), .mv (.t 40), none⟩]
abbrev o_rotaref02_windows_10 : List IOper := [⟨(some 41), .mv (.t 5), none⟩,
  ⟨(some 42), .bin .neq (.t 41) (.k (.c (.int .i64 (-1)))), none⟩,
  ⟨(some 43), .mv (.t 42), none⟩,
  ⟨(some 44), .mv (.t 5), some (43, true)⟩,
  ⟨(some 45), .bin .lss (.t 44) (.k (.c (.int .i64 0))), some (43, true)⟩,
  ⟨(some 46), .mv (.t 45), some (43, true)⟩,
  ⟨(some 47), .mv (.t 5), some (46, false)⟩,
  ⟨(some 48), .fa 8 (.t 1), some (46, false)⟩,
  ⟨(some 49), .ld none (.t 48), some (46, false)⟩,
  ⟨(some 50), .len false (.t 49), some (46, false)⟩,
  ⟨(some 51), .bin .geq (.t 47) (.t 50), some (46, false)⟩,
  ⟨(some 52), .pick (.t 46) (.k (.c (.bool true))) (.t 51), some (43, true)⟩,
  ⟨(some 53), .mv (.t 52), some (43, true)⟩,
  ⟨(some 54), .fa 8 (.t 1), some (53, false)⟩,
  ⟨(some 55), .ld none (.t 54), some (53, false)⟩,
  ⟨(some 56), .mv (.t 5), some (53, false)⟩,
  ⟨(some 57), .iaS 3 (.t 55) (.t 56), some (53, false)⟩,
  ⟨(some 58), .fa 0 (.t 57), some (53, false)⟩,
  ⟨(some 59), .ld none (.t 58), some (53, false)⟩,
  ⟨(some 60), .mv (.t 3), some (53, false)⟩,
  ⟨(some 61), .bin .neq (.t 59) (.t 60), some (53, false)⟩,
  ⟨(some 62), .pick (.t 53) (.k (.c (.bool true))) (.t 61), some (43, true)⟩,
  ⟨(some 63), .pick (.t 43) (.t 62) (.k (.c (.bool false))), none⟩]
abbrev o_rotaref02_windows_11 : List IOper := [⟨(some 2), .mv (.k (.c (.bool false))), none⟩]
abbrev o_rotaref02_windows_12 : List IOper := [⟨(some 31), .mv (.t 4), none⟩,
  ⟨(some 32), .bin .add (.t 31) (.k (.c (.int .i64 1))), none⟩,
  ⟨(some 4), .mv (.t 32), none⟩]
def b_rotaref02_windows_13 : IC := (.seq (.seq (.ops o_rotaref02_windows_8) (.cond (.t 30) .skip (.exit 2))) (.seq (.block 3 (.seq (.ops o_rotaref02_windows_9) (.seq (.ops o_rotaref02_windows_10) (.cond (.t 63) (.seq (.ops o_rotaref02_windows_11) .ret) .skip)))) (.ops o_rotaref02_windows_12)))
abbrev o_rotaref02_windows_14 : List IOper := [⟨(some 16), .mv (.t 3), none⟩,
  ⟨(some 17), .bin .add (.t 16) (.k (.c (.int .i64 1))), none⟩,
  ⟨(some 3), .mv (.t 17), none⟩]
def b_rotaref02_windows_15 : IC := (.seq (.seq (.ops o_rotaref02_windows_4) (.cond (.t 15) .skip (.exit 0))) (.seq (.block 1 (.seq (.seq (.ops o_rotaref02_windows_5) (.cond (.t 26) (.seq (.ops o_rotaref02_windows_6) .ret) .skip)) (.seq (.ops o_rotaref02_windows_7) (.block 2 (.loop b_rotaref02_windows_13))))) (.ops o_rotaref02_windows_14)))
abbrev o_rotaref02_windows_16 : List IOper := [⟨(some 2), .mv (.k (.c (.bool true))), none⟩]
def c_rotaref02_windows : IC := (.seq (.ops o_rotaref02_windows_0) (.seq (.seq (.ops o_rotaref02_windows_1) (.cond (.t 11) (.seq (.ops o_rotaref02_windows_2) .ret) .skip)) (.seq (.seq (.ops o_rotaref02_windows_3) (.block 0 (.loop b_rotaref02_windows_15))) (.seq (.ops o_rotaref02_windows_16) .ret))))
def i_rotaref02_windows : IFn := ⟨64, c_rotaref02_windows, [(2, none)]⟩

-- F 35 rota/rotaref02.ports: bads 0, calls [52]
abbrev o_rotaref02_ports_0 : List IOper := [⟨(some 1), .box 28 (.t 0), none⟩,
  ⟨(some 2), .mv (.k (.c (.bool false))), none⟩]
abbrev o_rotaref02_ports_1 : List IOper := [⟨(some 3), .mv (.k (.c (.int .i64 0))), none⟩]
abbrev o_rotaref02_ports_2 : List IOper := [⟨(some 4), .mv (.t 3), none⟩,
  ⟨(some 5), .fa 10 (.t 1), none⟩,
  ⟨(some 6), .ld none (.t 5), none⟩,
  ⟨(some 7), .len false (.t 6), none⟩,
  ⟨(some 8), .bin .lss (.t 4) (.t 7), none⟩]
abbrev o_rotaref02_ports_3 : List IOper := [⟨(some 11), .fa 10 (.t 1), none⟩,
  ⟨(some 12), .ld none (.t 11), none⟩,
  ⟨(some 13), .mv (.t 3), none⟩,
  ⟨(some 14), .iaS 6 (.t 12) (.t 13), none⟩,
  ⟨(some 15), .ld (some 6) (.t 14), none⟩,
  ⟨(some 16), .call (.k (.c (.fn fn_rotaref02_Alone [] []))) [(.t 15)], none⟩,
  ⟨(some 17), .un .not (.t 16), none⟩,
  ⟨(some 18), .mv (.t 17), none⟩,
  ⟨(some 19), .fa 10 (.t 1), some (18, false)⟩,
  ⟨(some 20), .ld none (.t 19), some (18, false)⟩,
  ⟨(some 21), .mv (.t 3), some (18, false)⟩,
  ⟨(some 22), .iaS 6 (.t 20) (.t 21), some (18, false)⟩,
  ⟨(some 23), .fa 0 (.t 22), some (18, false)⟩,
  ⟨(some 24), .ld none (.t 23), some (18, false)⟩,
  ⟨(some 25), .bin .lss (.t 24) (.k (.c (.int .i64 0))), some (18, false)⟩,
  ⟨(some 26), .pick (.t 18) (.k (.c (.bool true))) (.t 25), none⟩,
  ⟨(some 27), .mv (.t 26), none⟩,
  ⟨(some 28), .fa 10 (.t 1), some (27, false)⟩,
  ⟨(some 29), .ld none (.t 28), some (27, false)⟩,
  ⟨(some 30), .mv (.t 3), some (27, false)⟩,
  ⟨(some 31), .iaS 6 (.t 29) (.t 30), some (27, false)⟩,
  ⟨(some 32), .fa 0 (.t 31), some (27, false)⟩,
  ⟨(some 33), .ld none (.t 32), some (27, false)⟩,
  ⟨(some 34), .fa 8 (.t 1), some (27, false)⟩,
  ⟨(some 35), .ld none (.t 34), some (27, false)⟩,
  ⟨(some 36), .len false (.t 35), some (27, false)⟩,
  ⟨(some 37), .bin .geq (.t 33) (.t 36), some (27, false)⟩,
  ⟨(some 38), .pick (.t 27) (.k (.c (.bool true))) (.t 37), none⟩]
abbrev o_rotaref02_ports_4 : List IOper := [⟨(some 2), .mv (.k (.c (.bool false))), none⟩]
abbrev o_rotaref02_ports_5 : List IOper := [⟨(some 9), .mv (.t 3), none⟩,
  ⟨(some 10), .bin .add (.t 9) (.k (.c (.int .i64 1))), none⟩,
  ⟨(some 3), .mv (.t 10), none⟩]
def b_rotaref02_ports_6 : IC := (.seq (.seq (.ops o_rotaref02_ports_2) (.cond (.t 8) .skip (.exit 0))) (.seq (.block 1 (.seq (.ops o_rotaref02_ports_3) (.cond (.t 38) (.seq (.ops o_rotaref02_ports_4) .ret) .skip))) (.ops o_rotaref02_ports_5)))
abbrev o_rotaref02_ports_7 : List IOper := [⟨(some 39), .fa 10 (.t 1), none⟩,
  ⟨(some 40), .ld none (.t 39), none⟩,
  ⟨(some 41), .len false (.t 40), none⟩,
  ⟨(some 42), .bin .leq (.t 41) (.k (.c (.int .i64 64))), none⟩,
  ⟨(some 2), .mv (.t 42), none⟩]
def c_rotaref02_ports : IC := (.seq (.ops o_rotaref02_ports_0) (.seq (.seq (.ops o_rotaref02_ports_1) (.block 0 (.loop b_rotaref02_ports_6))) (.seq (.ops o_rotaref02_ports_7) .ret)))
def i_rotaref02_ports : IFn := ⟨43, c_rotaref02_ports, [(2, none)]⟩

-- F 36 rota/rotaref02.links: bads 0, calls [53, 53, 49, 51]
abbrev o_rotaref02_links_0 : List IOper := [⟨(some 1), .box 28 (.t 0), none⟩,
  ⟨(some 2), .mv (.k (.c (.bool false))), none⟩]
abbrev o_rotaref02_links_1 : List IOper := [⟨(some 15), .fa 11 (.t 1), none⟩,
  ⟨(some 16), .ld none (.t 15), none⟩,
  ⟨(some 17), .len false (.t 16), none⟩,
  ⟨(some 18), .bin .gtr (.t 17) (.k (.c (.int .i64 64))), none⟩]
abbrev o_rotaref02_links_2 : List IOper := [⟨(some 2), .mv (.k (.c (.bool false))), none⟩]
abbrev o_rotaref02_links_3 : List IOper := [⟨(some 3), .mv (.k (.c (.sl none 0 0 false))), none⟩]
abbrev o_rotaref02_links_4 : List IOper := [⟨(some 4), .mv (.k (.c (.int .i64 0))), none⟩]
abbrev o_rotaref02_links_5 : List IOper := [⟨(some 19), .mv (.t 4), none⟩,
  ⟨(some 20), .fa 11 (.t 1), none⟩,
  ⟨(some 21), .ld none (.t 20), none⟩,
  ⟨(some 22), .len false (.t 21), none⟩,
  ⟨(some 23), .bin .lss (.t 19) (.t 22), none⟩]
abbrev o_rotaref02_links_6 : List IOper := [⟨(some 26), .fa 11 (.t 1), none⟩,
  ⟨(some 27), .ld none (.t 26), none⟩,
  ⟨(some 28), .mv (.t 4), none⟩,
  ⟨(some 29), .iaS 3 (.t 27) (.t 28), none⟩,
  ⟨(some 30), .ld (some 3) (.t 29), none⟩,
  ⟨(some 5), .new 100 (.agg [(.int .i64 0), (.sl none 0 0 false), (.int .i64 0)]), none⟩,
  ⟨none, .st 3 (.t 5) (.t 30), none⟩]
abbrev o_rotaref02_links_7 : List IOper := [⟨(some 31), .ld (some 12) (.t 1), none⟩,
  ⟨(some 32), .fa 0 (.t 5), none⟩,
  ⟨(some 33), .ld none (.t 32), none⟩,
  ⟨(some 34), .call (.k (.c (.fn fn_rotaref02_is [] []))) [(.t 31), (.t 33)], none⟩,
  ⟨(some 35), .un .not (.t 34), none⟩,
  ⟨(some 36), .mv (.t 35), none⟩,
  ⟨(some 37), .fa 10 (.t 1), some (36, false)⟩,
  ⟨(some 38), .ld none (.t 37), some (36, false)⟩,
  ⟨(some 39), .fa 0 (.t 5), some (36, false)⟩,
  ⟨(some 40), .ld none (.t 39), some (36, false)⟩,
  ⟨(some 41), .iaS 6 (.t 38) (.t 40), some (36, false)⟩,
  ⟨(some 42), .fa 2 (.t 41), some (36, false)⟩,
  ⟨(some 43), .ld none (.t 42), some (36, false)⟩,
  ⟨(some 44), .bin .neq (.t 43) (.k (.c (.int .i64 1))), some (36, false)⟩,
  ⟨(some 45), .pick (.t 36) (.k (.c (.bool true))) (.t 44), none⟩,
  ⟨(some 46), .mv (.t 45), none⟩,
  ⟨(some 47), .fa 1 (.t 5), some (46, false)⟩,
  ⟨(some 48), .ld none (.t 47), some (46, false)⟩,
  ⟨(some 49), .len false (.t 48), some (46, false)⟩,
  ⟨(some 50), .bin .eql (.t 49) (.k (.c (.int .i64 0))), some (46, false)⟩,
  ⟨(some 51), .pick (.t 46) (.k (.c (.bool true))) (.t 50), none⟩,
  ⟨(some 52), .mv (.t 51), none⟩,
  ⟨(some 53), .fa 2 (.t 5), some (52, false)⟩,
  ⟨(some 54), .ld none (.t 53), some (52, false)⟩,
  ⟨(some 55), .bin .lss (.t 54) (.k (.c (.int .i64 0))), some (52, false)⟩,
  ⟨(some 56), .pick (.t 52) (.k (.c (.bool true))) (.t 55), none⟩,
  ⟨(some 57), .mv (.t 56), none⟩,
  ⟨(some 58), .fa 2 (.t 5), some (57, false)⟩,
  ⟨(some 59), .ld none (.t 58), some (57, false)⟩,
  ⟨(some 60), .bin .gtr (.t 59) (.k (.c (.int .i64 64))), some (57, false)⟩,
  ⟨(some 61), .pick (.t 57) (.k (.c (.bool true))) (.t 60), none⟩,
  ⟨(some 62), .mv (.t 61), none⟩,
  ⟨(some 63), .fa 2 (.t 5), some (62, false)⟩,
  ⟨(some 64), .ld none (.t 63), some (62, false)⟩,
  ⟨(some 65), .bin .add (.t 64) (.k (.c (.int .i64 1))), some (62, false)⟩,
  ⟨(some 66), .fa 10 (.t 1), some (62, false)⟩,
  ⟨(some 67), .ld none (.t 66), some (62, false)⟩,
  ⟨(some 68), .fa 0 (.t 5), some (62, false)⟩,
  ⟨(some 69), .ld none (.t 68), some (62, false)⟩,
  ⟨(some 70), .iaS 6 (.t 67) (.t 69), some (62, false)⟩,
  ⟨(some 71), .fa 3 (.t 70), some (62, false)⟩,
  ⟨(some 72), .ld none (.t 71), some (62, false)⟩,
  ⟨(some 73), .bin .add (.t 65) (.t 72), some (62, false)⟩,
  ⟨(some 74), .bin .gtr (.t 73) (.k (.c (.int .i64 64))), some (62, false)⟩,
  ⟨(some 75), .pick (.t 62) (.k (.c (.bool true))) (.t 74), none⟩]
abbrev o_rotaref02_links_8 : List IOper := [⟨(some 2), .mv (.k (.c (.bool false))), none⟩]
abbrev o_rotaref02_links_9 : List IOper := [⟨(some 76), .mv (.t 3), none⟩,
  ⟨(some 77), .fa 0 (.t 5), none⟩,
  ⟨(some 78), .ld none (.t 77), none⟩,
  ⟨(some 79), .bsl 3 1 [(.int .i64 0)] [(0, 1, (.t 78))], none⟩,
  ⟨(some 80), .app 3 1 8 (.t 76) (.t 79), none⟩,
  ⟨(some 3), .mv (.t 80), none⟩]
abbrev o_rotaref02_links_10 : List IOper := [⟨(some 6), .mv (.k (.c (.int .i64 0))), none⟩]
abbrev o_rotaref02_links_11 : List IOper := [⟨(some 81), .mv (.t 6), none⟩,
  ⟨(some 82), .fa 1 (.t 5), none⟩,
  ⟨(some 83), .ld none (.t 82), none⟩,
  ⟨(some 84), .len false (.t 83), none⟩,
  ⟨(some 85), .bin .lss (.t 81) (.t 84), none⟩]
abbrev o_rotaref02_links_12 : List IOper := [⟨(some 88), .fa 1 (.t 5), none⟩,
  ⟨(some 89), .ld none (.t 88), none⟩,
  ⟨(some 90), .mv (.t 6), none⟩,
  ⟨(some 91), .iaS 1 (.t 89) (.t 90), none⟩,
  ⟨(some 92), .ld none (.t 91), none⟩,
  ⟨(some 7), .mv (.t 92), none⟩]
abbrev o_rotaref02_links_13 : List IOper := [⟨(some 93), .ld (some 12) (.t 1), none⟩,
  ⟨(some 94), .mv (.t 7), none⟩,
  ⟨(some 95), .call (.k (.c (.fn fn_rotaref02_is [] []))) [(.t 93), (.t 94)], none⟩,
  ⟨(some 96), .un .not (.t 95), none⟩,
  ⟨(some 97), .mv (.t 96), none⟩,
  ⟨(some 98), .fa 10 (.t 1), some (97, false)⟩,
  ⟨(some 99), .ld none (.t 98), some (97, false)⟩,
  ⟨(some 100), .mv (.t 7), some (97, false)⟩,
  ⟨(some 101), .iaS 6 (.t 99) (.t 100), some (97, false)⟩,
  ⟨(some 102), .fa 2 (.t 101), some (97, false)⟩,
  ⟨(some 103), .ld none (.t 102), some (97, false)⟩,
  ⟨(some 104), .bin .neq (.t 103) (.k (.c (.int .i64 2))), some (97, false)⟩,
  ⟨(some 105), .pick (.t 97) (.k (.c (.bool true))) (.t 104), none⟩,
  ⟨(some 106), .mv (.t 105), none⟩,
  ⟨(some 107), .fa 10 (.t 1), some (106, false)⟩,
  ⟨(some 108), .ld none (.t 107), some (106, false)⟩,
  ⟨(some 109), .mv (.t 7), some (106, false)⟩,
  ⟨(some 110), .iaS 6 (.t 108) (.t 109), some (106, false)⟩,
  ⟨(some 111), .fa 1 (.t 110), some (106, false)⟩,
  ⟨(some 112), .ld none (.t 111), some (106, false)⟩,
  ⟨(some 113), .fa 10 (.t 1), some (106, false)⟩,
  ⟨(some 114), .ld none (.t 113), some (106, false)⟩,
  ⟨(some 115), .fa 0 (.t 5), some (106, false)⟩,
  ⟨(some 116), .ld none (.t 115), some (106, false)⟩,
  ⟨(some 117), .iaS 6 (.t 114) (.t 116), some (106, false)⟩,
  ⟨(some 118), .fa 1 (.t 117), some (106, false)⟩,
  ⟨(some 119), .ld none (.t 118), some (106, false)⟩,
  ⟨(some 120), .bin .neq (.t 112) (.t 119), some (106, false)⟩,
  ⟨(some 121), .pick (.t 106) (.k (.c (.bool true))) (.t 120), none⟩,
  ⟨(some 122), .mv (.t 121), none⟩,
  ⟨(some 123), .fa 10 (.t 1), some (122, false)⟩,
  ⟨(some 124), .ld none (.t 123), some (122, false)⟩,
  ⟨(some 125), .mv (.t 7), some (122, false)⟩,
  ⟨(some 126), .iaS 6 (.t 124) (.t 125), some (122, false)⟩,
  ⟨(some 127), .fa 3 (.t 126), some (122, false)⟩,
  ⟨(some 128), .ld none (.t 127), some (122, false)⟩,
  ⟨(some 129), .fa 10 (.t 1), some (122, false)⟩,
  ⟨(some 130), .ld none (.t 129), some (122, false)⟩,
  ⟨(some 131), .fa 0 (.t 5), some (122, false)⟩,
  ⟨(some 132), .ld none (.t 131), some (122, false)⟩,
  ⟨(some 133), .iaS 6 (.t 130) (.t 132), some (122, false)⟩,
  ⟨(some 134), .fa 3 (.t 133), some (122, false)⟩,
  ⟨(some 135), .ld none (.t 134), some (122, false)⟩,
  ⟨(some 136), .bin .neq (.t 128) (.t 135), some (122, false)⟩,
  ⟨(some 137), .pick (.t 122) (.k (.c (.bool true))) (.t 136), none⟩]
abbrev o_rotaref02_links_14 : List IOper := [⟨(some 2), .mv (.k (.c (.bool false))), none⟩]
abbrev o_rotaref02_links_15 : List IOper := [⟨(some 138), .mv (.t 3), none⟩,
  ⟨(some 139), .mv (.t 7), none⟩,
  ⟨(some 140), .bsl 3 1 [(.int .i64 0)] [(0, 1, (.t 139))], none⟩,
  ⟨(some 141), .app 3 1 8 (.t 138) (.t 140), none⟩,
  ⟨(some 3), .mv (.t 141), none⟩]
abbrev o_rotaref02_links_16 : List IOper := [⟨(some 86), .mv (.t 6), none⟩,
  ⟨(some 87), .bin .add (.t 86) (.k (.c (.int .i64 1))), none⟩,
  ⟨(some 6), .mv (.t 87), none⟩]
def b_rotaref02_links_17 : IC := (.seq (.seq (.ops o_rotaref02_links_11) (.cond (.t 85) .skip (.exit 2))) (.seq (.block 3 (.seq (.ops o_rotaref02_links_12) (.seq (.seq (.ops o_rotaref02_links_13) (.cond (.t 137) (.seq (.ops o_rotaref02_links_14) .ret) .skip)) (.ops o_rotaref02_links_15)))) (.ops o_rotaref02_links_16)))
abbrev o_rotaref02_links_18 : List IOper := [⟨(some 142), .mv (.t 3), none⟩,
  ⟨(some 143), .len false (.t 142), none⟩,
  ⟨(some 144), .fa 10 (.t 1), none⟩,
  ⟨(some 145), .ld none (.t 144), none⟩,
  ⟨(some 146), .len false (.t 145), none⟩,
  ⟨(some 147), .bin .gtr (.t 143) (.t 146), none⟩]
abbrev o_rotaref02_links_19 : List IOper := [⟨(some 2), .mv (.k (.c (.bool false))), none⟩]
abbrev o_rotaref02_links_20 : List IOper := [⟨(some 24), .mv (.t 4), none⟩,
  ⟨(some 25), .bin .add (.t 24) (.k (.c (.int .i64 1))), none⟩,
  ⟨(some 4), .mv (.t 25), none⟩]
def b_rotaref02_links_21 : IC := (.seq (.seq (.ops o_rotaref02_links_5) (.cond (.t 23) .skip (.exit 0))) (.seq (.block 1 (.seq (.ops o_rotaref02_links_6) (.seq (.seq (.ops o_rotaref02_links_7) (.cond (.t 75) (.seq (.ops o_rotaref02_links_8) .ret) .skip)) (.seq (.ops o_rotaref02_links_9) (.seq (.seq (.ops o_rotaref02_links_10) (.block 2 (.loop b_rotaref02_links_17))) (.seq (.ops o_rotaref02_links_18) (.cond (.t 147) (.seq (.ops o_rotaref02_links_19) .ret) .skip))))))) (.ops o_rotaref02_links_20)))
abbrev o_rotaref02_links_22 : List IOper := [⟨(some 8), .mv (.k (.c (.int .i64 0))), none⟩]
abbrev o_rotaref02_links_23 : List IOper := [⟨(some 148), .mv (.t 8), none⟩,
  ⟨(some 149), .fa 10 (.t 1), none⟩,
  ⟨(some 150), .ld none (.t 149), none⟩,
  ⟨(some 151), .len false (.t 150), none⟩,
  ⟨(some 152), .bin .lss (.t 148) (.t 151), none⟩]
abbrev o_rotaref02_links_24 : List IOper := [⟨(some 155), .mv (.t 3), none⟩,
  ⟨(some 156), .mv (.t 8), none⟩,
  ⟨(some 157), .call (.k (.c (.fn fn_rotaref02_count [] []))) [(.t 155), (.t 156)], none⟩,
  ⟨(some 158), .bin .gtr (.t 157) (.k (.c (.int .i64 1))), none⟩]
abbrev o_rotaref02_links_25 : List IOper := [⟨(some 2), .mv (.k (.c (.bool false))), none⟩]
abbrev o_rotaref02_links_26 : List IOper := [⟨(some 153), .mv (.t 8), none⟩,
  ⟨(some 154), .bin .add (.t 153) (.k (.c (.int .i64 1))), none⟩,
  ⟨(some 8), .mv (.t 154), none⟩]
def b_rotaref02_links_27 : IC := (.seq (.seq (.ops o_rotaref02_links_23) (.cond (.t 152) .skip (.exit 4))) (.seq (.block 5 (.seq (.ops o_rotaref02_links_24) (.cond (.t 158) (.seq (.ops o_rotaref02_links_25) .ret) .skip))) (.ops o_rotaref02_links_26)))
abbrev o_rotaref02_links_28 : List IOper := [⟨(some 9), .mv (.k (.c (.int .i64 0))), none⟩]
abbrev o_rotaref02_links_29 : List IOper := [⟨(some 159), .mv (.t 9), none⟩,
  ⟨(some 160), .fa 11 (.t 1), none⟩,
  ⟨(some 161), .ld none (.t 160), none⟩,
  ⟨(some 162), .len false (.t 161), none⟩,
  ⟨(some 163), .bin .lss (.t 159) (.t 162), none⟩]
abbrev o_rotaref02_links_30 : List IOper := [⟨(some 10), .mv (.k (.c (.int .i64 0))), none⟩]
abbrev o_rotaref02_links_31 : List IOper := [⟨(some 166), .mv (.t 10), none⟩,
  ⟨(some 167), .mv (.t 9), none⟩,
  ⟨(some 168), .bin .lss (.t 166) (.t 167), none⟩]
abbrev o_rotaref02_links_32 : List IOper := [⟨(some 171), .fa 11 (.t 1), none⟩,
  ⟨(some 172), .ld none (.t 171), none⟩,
  ⟨(some 173), .mv (.t 9), none⟩,
  ⟨(some 174), .iaS 3 (.t 172) (.t 173), none⟩,
  ⟨(some 175), .ld (some 3) (.t 174), none⟩,
  ⟨(some 11), .new 100 (.agg [(.int .i64 0), (.sl none 0 0 false), (.int .i64 0)]), none⟩,
  ⟨none, .st 3 (.t 11) (.t 175), none⟩]
abbrev o_rotaref02_links_33 : List IOper := [⟨(some 176), .fa 11 (.t 1), none⟩,
  ⟨(some 177), .ld none (.t 176), none⟩,
  ⟨(some 178), .mv (.t 10), none⟩,
  ⟨(some 179), .iaS 3 (.t 177) (.t 178), none⟩,
  ⟨(some 180), .ld (some 3) (.t 179), none⟩,
  ⟨(some 12), .new 100 (.agg [(.int .i64 0), (.sl none 0 0 false), (.int .i64 0)]), none⟩,
  ⟨none, .st 3 (.t 12) (.t 180), none⟩]
abbrev o_rotaref02_links_34 : List IOper := [⟨(some 181), .fa 10 (.t 1), none⟩,
  ⟨(some 182), .ld none (.t 181), none⟩,
  ⟨(some 183), .fa 0 (.t 11), none⟩,
  ⟨(some 184), .ld none (.t 183), none⟩,
  ⟨(some 185), .iaS 6 (.t 182) (.t 184), none⟩,
  ⟨(some 186), .ld (some 6) (.t 185), none⟩,
  ⟨(some 13), .new 98 (.agg (List.replicate 6 (.int .i64 0))), none⟩,
  ⟨none, .st 6 (.t 13) (.t 186), none⟩]
abbrev o_rotaref02_links_35 : List IOper := [⟨(some 187), .fa 10 (.t 1), none⟩,
  ⟨(some 188), .ld none (.t 187), none⟩,
  ⟨(some 189), .fa 0 (.t 12), none⟩,
  ⟨(some 190), .ld none (.t 189), none⟩,
  ⟨(some 191), .iaS 6 (.t 188) (.t 190), none⟩,
  ⟨(some 192), .ld (some 6) (.t 191), none⟩,
  ⟨(some 14), .new 98 (.agg (List.replicate 6 (.int .i64 0))), none⟩,
  ⟨none, .st 6 (.t 14) (.t 192), none⟩]
abbrev o_rotaref02_links_36 : List IOper := [⟨(some 193), .fa 8 (.t 1), none⟩,
  ⟨(some 194), .ld none (.t 193), none⟩,
  ⟨(some 195), .fa 0 (.t 13), none⟩,
  ⟨(some 196), .ld none (.t 195), none⟩,
  ⟨(some 197), .iaS 3 (.t 194) (.t 196), none⟩,
  ⟨(some 198), .fa 0 (.t 197), none⟩,
  ⟨(some 199), .ld none (.t 198), none⟩,
  ⟨(some 200), .fa 8 (.t 1), none⟩,
  ⟨(some 201), .ld none (.t 200), none⟩,
  ⟨(some 202), .fa 0 (.t 14), none⟩,
  ⟨(some 203), .ld none (.t 202), none⟩,
  ⟨(some 204), .iaS 3 (.t 201) (.t 203), none⟩,
  ⟨(some 205), .fa 0 (.t 204), none⟩,
  ⟨(some 206), .ld none (.t 205), none⟩,
  ⟨(some 207), .bin .eql (.t 199) (.t 206), none⟩,
  ⟨(some 208), .mv (.t 207), none⟩,
  ⟨(some 209), .fa 2 (.t 11), some (208, true)⟩,
  ⟨(some 210), .ld none (.t 209), some (208, true)⟩,
  ⟨(some 211), .fa 2 (.t 11), some (208, true)⟩,
  ⟨(some 212), .ld none (.t 211), some (208, true)⟩,
  ⟨(some 213), .bin .add (.t 212) (.k (.c (.int .i64 1))), some (208, true)⟩,
  ⟨(some 214), .fa 3 (.t 13), some (208, true)⟩,
  ⟨(some 215), .ld none (.t 214), some (208, true)⟩,
  ⟨(some 216), .bin .add (.t 213) (.t 215), some (208, true)⟩,
  ⟨(some 217), .fa 2 (.t 12), some (208, true)⟩,
  ⟨(some 218), .ld none (.t 217), some (208, true)⟩,
  ⟨(some 219), .fa 2 (.t 12), some (208, true)⟩,
  ⟨(some 220), .ld none (.t 219), some (208, true)⟩,
  ⟨(some 221), .bin .add (.t 220) (.k (.c (.int .i64 1))), some (208, true)⟩,
  ⟨(some 222), .fa 3 (.t 14), some (208, true)⟩,
  ⟨(some 223), .ld none (.t 222), some (208, true)⟩,
  ⟨(some 224), .bin .add (.t 221) (.t 223), some (208, true)⟩,
  ⟨(some 225), .call (.k (.c (.fn fn_rotaref02_meet [] []))) [(.t 210), (.t 216), (.t 218), (.t 224)], some (208, true)⟩,
  ⟨(some 226), .pick (.t 208) (.t 225) (.k (.c (.bool false))), none⟩]
abbrev o_rotaref02_links_37 : List IOper := [⟨(some 2), .mv (.k (.c (.bool false))), none⟩]
abbrev o_rotaref02_links_38 : List IOper := [⟨(some 169), .mv (.t 10), none⟩,
  ⟨(some 170), .bin .add (.t 169) (.k (.c (.int .i64 1))), none⟩,
  ⟨(some 10), .mv (.t 170), none⟩]
def b_rotaref02_links_39 : IC := (.seq (.seq (.ops o_rotaref02_links_31) (.cond (.t 168) .skip (.exit 8))) (.seq (.block 9 (.seq (.ops o_rotaref02_links_32) (.seq (.ops o_rotaref02_links_33) (.seq (.ops o_rotaref02_links_34) (.seq (.ops o_rotaref02_links_35) (.seq (.ops o_rotaref02_links_36) (.cond (.t 226) (.seq (.ops o_rotaref02_links_37) .ret) .skip))))))) (.ops o_rotaref02_links_38)))
abbrev o_rotaref02_links_40 : List IOper := [⟨(some 164), .mv (.t 9), none⟩,
  ⟨(some 165), .bin .add (.t 164) (.k (.c (.int .i64 1))), none⟩,
  ⟨(some 9), .mv (.t 165), none⟩]
def b_rotaref02_links_41 : IC := (.seq (.seq (.ops o_rotaref02_links_29) (.cond (.t 163) .skip (.exit 6))) (.seq (.block 7 (.seq (.ops o_rotaref02_links_30) (.block 8 (.loop b_rotaref02_links_39)))) (.ops o_rotaref02_links_40)))
abbrev o_rotaref02_links_42 : List IOper := [⟨(some 2), .mv (.k (.c (.bool true))), none⟩]
def c_rotaref02_links : IC := (.seq (.ops o_rotaref02_links_0) (.seq (.seq (.ops o_rotaref02_links_1) (.cond (.t 18) (.seq (.ops o_rotaref02_links_2) .ret) .skip)) (.seq (.ops o_rotaref02_links_3) (.seq (.seq (.ops o_rotaref02_links_4) (.block 0 (.loop b_rotaref02_links_21))) (.seq (.seq (.ops o_rotaref02_links_22) (.block 4 (.loop b_rotaref02_links_27))) (.seq (.seq (.ops o_rotaref02_links_28) (.block 6 (.loop b_rotaref02_links_41))) (.seq (.ops o_rotaref02_links_42) .ret)))))))
def i_rotaref02_links : IFn := ⟨227, c_rotaref02_links, [(2, none)]⟩

-- F 37 slices.IndexFunc[[]rota/api.Send,rota/api.Send]: bads 0, calls []
abbrev o_slices_IndexFunc_api_Send_api_Send_0 : List IOper := [⟨(some 4), .mv (.k (.c (.int .i64 0))), none⟩]
abbrev o_slices_IndexFunc_api_Send_api_Send_1 : List IOper := [⟨(some 6), .mv (.t 0), none⟩,
  ⟨(some 7), .len false (.t 6), none⟩,
  ⟨(some 8), .mv (.k (.c (.int .i64 0))), none⟩]
abbrev o_slices_IndexFunc_api_Send_api_Send_2 : List IOper := [⟨(some 9), .bin .lss (.t 8) (.t 7), none⟩]
abbrev o_slices_IndexFunc_api_Send_api_Send_3 : List IOper := [⟨(some 10), .mv (.t 8), none⟩,
  ⟨(some 5), .mv (.t 10), none⟩]
abbrev o_slices_IndexFunc_api_Send_api_Send_4 : List IOper := [⟨(some 11), .mv (.t 1), none⟩,
  ⟨(some 12), .mv (.t 0), none⟩,
  ⟨(some 13), .mv (.t 5), none⟩,
  ⟨(some 14), .iaS 2 (.t 12) (.t 13), none⟩,
  ⟨(some 15), .ld (some 2) (.t 14), none⟩,
  ⟨(some 16), .call (.t 11) [(.t 15)], none⟩]
abbrev o_slices_IndexFunc_api_Send_api_Send_5 : List IOper := [⟨(some 17), .mv (.t 5), none⟩,
  ⟨(some 4), .mv (.t 17), none⟩]
abbrev o_slices_IndexFunc_api_Send_api_Send_6 : List IOper := [⟨(some 18), .bin .add (.t 8) (.k (.c (.int .i64 1))), none⟩,
  ⟨(some 8), .mv (.t 18), none⟩]
def b_slices_IndexFunc_api_Send_api_Send_7 : IC := (.seq (.ops o_slices_IndexFunc_api_Send_api_Send_2) (.seq (.cond (.t 9) .skip (.exit 0)) (.seq (.block 1 (.seq (.ops o_slices_IndexFunc_api_Send_api_Send_3) (.seq (.ops o_slices_IndexFunc_api_Send_api_Send_4) (.cond (.t 16) (.seq (.ops o_slices_IndexFunc_api_Send_api_Send_5) .ret) .skip)))) (.ops o_slices_IndexFunc_api_Send_api_Send_6))))
abbrev o_slices_IndexFunc_api_Send_api_Send_8 : List IOper := [⟨(some 4), .mv (.k (.c (.int .i64 (-1)))), none⟩]
def c_slices_IndexFunc_api_Send_api_Send : IC := (.seq (.ops o_slices_IndexFunc_api_Send_api_Send_0) (.seq (.seq (.ops o_slices_IndexFunc_api_Send_api_Send_1) (.block 0 (.loop b_slices_IndexFunc_api_Send_api_Send_7))) (.seq (.ops o_slices_IndexFunc_api_Send_api_Send_8) .ret)))
def i_slices_IndexFunc_api_Send_api_Send : IFn := ⟨19, c_slices_IndexFunc_api_Send_api_Send, [(4, none)]⟩

-- F 38 (*rota/bus.Bus).pass$1: bads 0, calls []
abbrev o_bus_Bus_pass_1_0 : List IOper := [⟨(some 2), .box 59 (.t 0), none⟩,
  ⟨(some 3), .mv (.k (.c (.bool false))), none⟩]
abbrev o_bus_Bus_pass_1_1 : List IOper := [⟨(some 4), .ld none (.t 1), none⟩,
  ⟨(some 5), .bin .geq (.t 4) (.k (.c (.int .i64 0))), none⟩,
  ⟨(some 6), .mv (.t 5), none⟩,
  ⟨(some 7), .fa 0 (.t 2), some (6, true)⟩,
  ⟨(some 8), .ld none (.t 7), some (6, true)⟩,
  ⟨(some 9), .ld none (.t 1), some (6, true)⟩,
  ⟨(some 10), .bin .eql (.t 8) (.t 9), some (6, true)⟩,
  ⟨(some 11), .pick (.t 6) (.t 10) (.k (.c (.bool false))), none⟩,
  ⟨(some 3), .mv (.t 11), none⟩]
def c_bus_Bus_pass_1 : IC := (.seq (.ops o_bus_Bus_pass_1_0) (.seq (.ops o_bus_Bus_pass_1_1) .ret))
def i_bus_Bus_pass_1 : IFn := ⟨12, c_bus_Bus_pass_1, [(3, none)]⟩

-- F 39 (*sync/atomic.Uint64).Add: bads 0, calls [54]
abbrev o_atomic_Uint64_Add_0 : List IOper := [⟨(some 4), .mv (.k (.c (.int .u64 0))), none⟩]
abbrev o_atomic_Uint64_Add_1 : List IOper := [⟨(some 5), .mv (.t 0), none⟩,
  ⟨(some 6), .nilck (.t 5), none⟩,
  ⟨(some 7), .fa 0 (.t 6), none⟩,
  ⟨(some 8), .mv (.t 1), none⟩,
  ⟨(some 9), .call (.k (.c (.fn fn_atomic_AddUint64 [] []))) [(.t 7), (.t 8)], none⟩,
  ⟨(some 4), .mv (.t 9), none⟩]
def c_atomic_Uint64_Add : IC := (.seq (.ops o_atomic_Uint64_Add_0) (.seq (.ops o_atomic_Uint64_Add_1) .ret))
def i_atomic_Uint64_Add : IFn := ⟨10, c_atomic_Uint64_Add, [(4, none)]⟩

-- F 40 rota/frame.bits: bads 0, calls [55]
abbrev o_frame_bits_0 : List IOper := [⟨(some 1), .box 60 (.t 0), none⟩,
  ⟨(some 2), .mv (.k (.c .nilFn)), none⟩]
abbrev o_frame_bits_1 : List IOper := [⟨(some 3), .mkfn fn_frame_bits_1 [] [(.t 1)], none⟩,
  ⟨(some 2), .mv (.t 3), none⟩]
def c_frame_bits : IC := (.seq (.ops o_frame_bits_0) (.seq (.ops o_frame_bits_1) .ret))
def i_frame_bits : IFn := ⟨4, c_frame_bits, [(2, none)]⟩

-- F 41 rota/rotaref07.bit: bads 0, calls []
abbrev o_rotaref07_bit_0 : List IOper := [⟨(some 4), .mv (.k (.c (.bool false))), none⟩]
abbrev o_rotaref07_bit_1 : List IOper := [⟨(some 5), .mv (.k (.c (.int .i64 0))), none⟩]
abbrev o_rotaref07_bit_2 : List IOper := [⟨(some 6), .mv (.t 5), none⟩,
  ⟨(some 7), .mv (.t 1), none⟩,
  ⟨(some 8), .bin .lss (.t 6) (.t 7), none⟩]
abbrev o_rotaref07_bit_3 : List IOper := [⟨(some 11), .mv (.t 0), none⟩,
  ⟨(some 12), .bin .quo (.t 11) (.k (.c (.int .u32 2))), none⟩,
  ⟨(some 0), .mv (.t 12), none⟩]
abbrev o_rotaref07_bit_4 : List IOper := [⟨(some 9), .mv (.t 5), none⟩,
  ⟨(some 10), .bin .add (.t 9) (.k (.c (.int .i64 1))), none⟩,
  ⟨(some 5), .mv (.t 10), none⟩]
def b_rotaref07_bit_5 : IC := (.seq (.seq (.ops o_rotaref07_bit_2) (.cond (.t 8) .skip (.exit 0))) (.seq (.block 1 (.ops o_rotaref07_bit_3)) (.ops o_rotaref07_bit_4)))
abbrev o_rotaref07_bit_6 : List IOper := [⟨(some 13), .mv (.t 0), none⟩,
  ⟨(some 14), .bin .rem (.t 13) (.k (.c (.int .u32 2))), none⟩,
  ⟨(some 15), .bin .eql (.t 14) (.k (.c (.int .u32 1))), none⟩,
  ⟨(some 4), .mv (.t 15), none⟩]
def c_rotaref07_bit : IC := (.seq (.ops o_rotaref07_bit_0) (.seq (.seq (.ops o_rotaref07_bit_1) (.block 0 (.loop b_rotaref07_bit_5))) (.seq (.ops o_rotaref07_bit_6) .ret)))
def i_rotaref07_bit : IFn := ⟨16, c_rotaref07_bit, [(4, none)]⟩

-- F 42 sync/atomic.LoadUint64: NO BODY

-- F 43 rota/config.nodes: bads 0, calls [56, 57]
abbrev o_config_nodes_0 : List IOper := [⟨(some 1), .box 28 (.t 0), none⟩,
  ⟨(some 2), .mv (.k (.c (.bool false))), none⟩]
abbrev o_config_nodes_1 : List IOper := [⟨(some 4), .fa 0 (.t 1), none⟩,
  ⟨(some 5), .ld none (.t 4), none⟩,
  ⟨(some 6), .call (.k (.c (.fn fn_config_within [] []))) [(.t 5), (.k (.c (.int .i64 4))), (.k (.c (.int .i64 16)))], none⟩,
  ⟨(some 7), .un .not (.t 6), none⟩,
  ⟨(some 8), .mv (.t 7), none⟩,
  ⟨(some 9), .fa 1 (.t 1), some (8, false)⟩,
  ⟨(some 10), .ld none (.t 9), some (8, false)⟩,
  ⟨(some 11), .len false (.t 10), some (8, false)⟩,
  ⟨(some 12), .fa 0 (.t 1), some (8, false)⟩,
  ⟨(some 13), .ld none (.t 12), some (8, false)⟩,
  ⟨(some 14), .bin .neq (.t 11) (.t 13), some (8, false)⟩,
  ⟨(some 15), .pick (.t 8) (.k (.c (.bool true))) (.t 14), none⟩]
abbrev o_config_nodes_2 : List IOper := [⟨(some 2), .mv (.k (.c (.bool false))), none⟩]
abbrev o_config_nodes_3 : List IOper := [⟨(some 16), .fa 0 (.t 1), none⟩,
  ⟨(some 17), .ld none (.t 16), none⟩,
  ⟨(some 18), .mv (.k (.c (.int .i64 0))), none⟩]
abbrev o_config_nodes_4 : List IOper := [⟨(some 19), .bin .lss (.t 18) (.t 17), none⟩]
abbrev o_config_nodes_5 : List IOper := [⟨(some 20), .mv (.t 18), none⟩,
  ⟨(some 3), .mv (.t 20), none⟩]
abbrev o_config_nodes_6 : List IOper := [⟨(some 21), .fa 1 (.t 1), none⟩,
  ⟨(some 22), .ld none (.t 21), none⟩,
  ⟨(some 23), .mv (.t 3), none⟩,
  ⟨(some 24), .call (.k (.c (.fn fn_slices_Contains_int_int [] []))) [(.t 22), (.t 23)], none⟩,
  ⟨(some 25), .un .not (.t 24), none⟩]
abbrev o_config_nodes_7 : List IOper := [⟨(some 2), .mv (.k (.c (.bool false))), none⟩]
abbrev o_config_nodes_8 : List IOper := [⟨(some 26), .bin .add (.t 18) (.k (.c (.int .i64 1))), none⟩,
  ⟨(some 18), .mv (.t 26), none⟩]
def b_config_nodes_9 : IC := (.seq (.ops o_config_nodes_4) (.seq (.cond (.t 19) .skip (.exit 0)) (.seq (.block 1 (.seq (.ops o_config_nodes_5) (.seq (.ops o_config_nodes_6) (.cond (.t 25) (.seq (.ops o_config_nodes_7) .ret) .skip)))) (.ops o_config_nodes_8))))
abbrev o_config_nodes_10 : List IOper := [⟨(some 2), .mv (.k (.c (.bool true))), none⟩]
def c_config_nodes : IC := (.seq (.ops o_config_nodes_0) (.seq (.seq (.ops o_config_nodes_1) (.cond (.t 15) (.seq (.ops o_config_nodes_2) .ret) .skip)) (.seq (.seq (.ops o_config_nodes_3) (.block 0 (.loop b_config_nodes_9))) (.seq (.ops o_config_nodes_10) .ret))))
def i_config_nodes : IFn := ⟨27, c_config_nodes, [(2, none)]⟩

-- F 44 rota/config.clocks: bads 0, calls [56, 56, 58, 56, 56, 56, 56]
abbrev o_config_clocks_0 : List IOper := [⟨(some 1), .box 28 (.t 0), none⟩,
  ⟨(some 2), .mv (.k (.c (.bool false))), none⟩]
abbrev o_config_clocks_1 : List IOper := [⟨(some 4), .fa 2 (.t 1), none⟩,
  ⟨(some 5), .ld none (.t 4), none⟩,
  ⟨(some 6), .call (.k (.c (.fn fn_config_within [] []))) [(.t 5), (.k (.c (.int .i64 0))), (.k (.c (.int .i64 1048576)))], none⟩,
  ⟨(some 7), .un .not (.t 6), none⟩,
  ⟨(some 8), .mv (.t 7), none⟩,
  ⟨(some 9), .fa 3 (.t 1), some (8, false)⟩,
  ⟨(some 10), .ld none (.t 9), some (8, false)⟩,
  ⟨(some 11), .call (.k (.c (.fn fn_config_within [] []))) [(.t 10), (.k (.c (.int .i64 0))), (.k (.c (.int .i64 1048576)))], some (8, false)⟩,
  ⟨(some 12), .un .not (.t 11), some (8, false)⟩,
  ⟨(some 13), .pick (.t 8) (.k (.c (.bool true))) (.t 12), none⟩]
abbrev o_config_clocks_2 : List IOper := [⟨(some 2), .mv (.k (.c (.bool false))), none⟩]
abbrev o_config_clocks_3 : List IOper := [⟨(some 17), .fa 3 (.t 1), none⟩,
  ⟨(some 18), .ld none (.t 17), none⟩,
  ⟨(some 14), .ld (some 12) (.t 1), none⟩,
  ⟨(some 15), .call (.k (.c (.fn fn_config_Precision [] []))) [(.t 14)], none⟩,
  ⟨none, .same (some none) (.t 17) (.t 18), none⟩,
  ⟨(some 16), .bin .mul (.k (.c (.int .i64 2))) (.t 15), none⟩,
  ⟨(some 19), .bin .add (.t 16) (.t 18), none⟩,
  ⟨(some 3), .mv (.t 19), none⟩]
abbrev o_config_clocks_4 : List IOper := [⟨(some 20), .fa 4 (.t 1), none⟩,
  ⟨(some 21), .ld none (.t 20), none⟩,
  ⟨(some 22), .mv (.t 3), none⟩,
  ⟨(some 23), .call (.k (.c (.fn fn_config_within [] []))) [(.t 21), (.t 22), (.k (.c (.int .i64 16777216)))], none⟩,
  ⟨(some 24), .mv (.t 23), none⟩,
  ⟨(some 25), .fa 5 (.t 1), some (24, true)⟩,
  ⟨(some 26), .ld none (.t 25), some (24, true)⟩,
  ⟨(some 27), .mv (.t 3), some (24, true)⟩,
  ⟨(some 28), .call (.k (.c (.fn fn_config_within [] []))) [(.t 26), (.t 27), (.k (.c (.int .i64 16777216)))], some (24, true)⟩,
  ⟨(some 29), .pick (.t 24) (.t 28) (.k (.c (.bool false))), none⟩,
  ⟨(some 30), .mv (.t 29), none⟩,
  ⟨(some 31), .fa 6 (.t 1), some (30, true)⟩,
  ⟨(some 32), .ld none (.t 31), some (30, true)⟩,
  ⟨(some 33), .call (.k (.c (.fn fn_config_within [] []))) [(.t 32), (.k (.c (.int .i64 1))), (.k (.c (.int .i64 8)))], some (30, true)⟩,
  ⟨(some 34), .pick (.t 30) (.t 33) (.k (.c (.bool false))), none⟩,
  ⟨(some 35), .mv (.t 34), none⟩,
  ⟨(some 36), .fa 7 (.t 1), some (35, true)⟩,
  ⟨(some 37), .ld none (.t 36), some (35, true)⟩,
  ⟨(some 38), .call (.k (.c (.fn fn_config_within [] []))) [(.t 37), (.k (.c (.int .i64 1))), (.k (.c (.int .i64 16)))], some (35, true)⟩,
  ⟨(some 39), .pick (.t 35) (.t 38) (.k (.c (.bool false))), none⟩,
  ⟨(some 2), .mv (.t 39), none⟩]
def c_config_clocks : IC := (.seq (.ops o_config_clocks_0) (.seq (.seq (.ops o_config_clocks_1) (.cond (.t 13) (.seq (.ops o_config_clocks_2) .ret) .skip)) (.seq (.ops o_config_clocks_3) (.seq (.ops o_config_clocks_4) .ret))))
def i_config_clocks : IFn := ⟨40, c_config_clocks, [(2, none)]⟩

-- F 45 rota/config.parts: bads 0, calls [56, 56, 59, 60]
abbrev o_config_parts_0 : List IOper := [⟨(some 1), .box 28 (.t 0), none⟩,
  ⟨(some 2), .new 4 (.c (.bool false)), none⟩]
abbrev o_config_parts_1 : List IOper := [⟨(some 9), .fa 8 (.t 1), none⟩,
  ⟨(some 10), .ld none (.t 9), none⟩,
  ⟨(some 11), .len false (.t 10), none⟩,
  ⟨(some 12), .bin .gtr (.t 11) (.k (.c (.int .i64 32))), none⟩]
abbrev o_config_parts_2 : List IOper := [⟨none, .st 1 (.t 2) (.k (.c (.bool false))), none⟩]
abbrev o_config_parts_3 : List IOper := [⟨(some 13), .fa 8 (.t 1), none⟩,
  ⟨(some 14), .ld none (.t 13), none⟩,
  ⟨(some 15), .len false (.t 14), none⟩,
  ⟨(some 16), .mv (.k (.c (.int .i64 0))), none⟩]
abbrev o_config_parts_4 : List IOper := [⟨(some 17), .bin .lss (.t 16) (.t 15), none⟩]
abbrev o_config_parts_5 : List IOper := [⟨(some 18), .iaS 3 (.t 14) (.t 16), none⟩,
  ⟨(some 19), .ld (some 3) (.t 18), none⟩,
  ⟨(some 4), .new 94 (.agg [(.int .i64 0), (.int .i64 0), (.int .i64 0)]), none⟩,
  ⟨none, .st 3 (.t 4) (.t 19), none⟩]
abbrev o_config_parts_6 : List IOper := [⟨(some 20), .fa 0 (.t 4), none⟩,
  ⟨(some 21), .ld none (.t 20), none⟩,
  ⟨(some 22), .fa 0 (.t 1), none⟩,
  ⟨(some 23), .ld none (.t 22), none⟩,
  ⟨(some 24), .bin .sub (.t 23) (.k (.c (.int .i64 1))), none⟩,
  ⟨(some 25), .call (.k (.c (.fn fn_config_within [] []))) [(.t 21), (.k (.c (.int .i64 0))), (.t 24)], none⟩,
  ⟨(some 26), .un .not (.t 25), none⟩,
  ⟨(some 27), .mv (.t 26), none⟩,
  ⟨(some 28), .fa 1 (.t 4), some (27, false)⟩,
  ⟨(some 29), .ld none (.t 28), some (27, false)⟩,
  ⟨(some 30), .fa 2 (.t 4), some (27, false)⟩,
  ⟨(some 31), .ld none (.t 30), some (27, false)⟩,
  ⟨(some 32), .call (.k (.c (.fn fn_config_within [] []))) [(.t 29), (.k (.c (.int .i64 0))), (.t 31)], some (27, false)⟩,
  ⟨(some 33), .un .not (.t 32), some (27, false)⟩,
  ⟨(some 34), .pick (.t 27) (.k (.c (.bool true))) (.t 33), none⟩,
  ⟨(some 35), .mv (.t 34), none⟩,
  ⟨(some 36), .fa 2 (.t 4), some (35, false)⟩,
  ⟨(some 37), .ld none (.t 36), some (35, false)⟩,
  ⟨(some 38), .bin .gtr (.t 37) (.k (.c (.int .i64 256))), some (35, false)⟩,
  ⟨(some 39), .pick (.t 35) (.k (.c (.bool true))) (.t 38), none⟩]
abbrev o_config_parts_7 : List IOper := [⟨none, .st 1 (.t 2) (.k (.c (.bool false))), none⟩]
abbrev o_config_parts_8 : List IOper := [⟨(some 40), .bin .add (.t 16) (.k (.c (.int .i64 1))), none⟩,
  ⟨(some 16), .mv (.t 40), none⟩]
def b_config_parts_9 : IC := (.seq (.ops o_config_parts_4) (.seq (.cond (.t 17) .skip (.exit 0)) (.seq (.block 1 (.seq (.ops o_config_parts_5) (.seq (.ops o_config_parts_6) (.cond (.t 39) (.seq (.ops o_config_parts_7) .ret) .skip)))) (.ops o_config_parts_8))))
abbrev o_config_parts_10 : List IOper := [⟨(some 41), .fa 8 (.t 1), none⟩,
  ⟨(some 42), .ld none (.t 41), none⟩,
  ⟨(some 43), .len false (.t 42), none⟩,
  ⟨(some 44), .call (.k (.c (.fn fn_config_pairs [] []))) [(.t 43)], none⟩]
abbrev o_config_parts_11 : List IOper := [⟨(some 5), .mv (.t 45), none⟩]
abbrev o_config_parts_12 : List IOper := [⟨(some 6), .mv (.t 46), none⟩]
abbrev o_config_parts_13 : List IOper := [⟨(some 54), .mv (.t 6), none⟩,
  ⟨(some 52), .fa 8 (.t 1), none⟩,
  ⟨(some 53), .ld none (.t 52), none⟩,
  ⟨(some 55), .iaS 3 (.t 53) (.t 54), none⟩,
  ⟨(some 56), .ld (some 3) (.t 55), none⟩,
  ⟨(some 49), .mv (.t 5), none⟩,
  ⟨(some 47), .fa 8 (.t 1), none⟩,
  ⟨(some 48), .ld none (.t 47), none⟩,
  ⟨(some 50), .iaS 3 (.t 48) (.t 49), none⟩,
  ⟨(some 51), .ld (some 3) (.t 50), none⟩,
  ⟨(some 7), .new 94 (.agg [(.int .i64 0), (.int .i64 0), (.int .i64 0)]), none⟩,
  ⟨(some 8), .new 94 (.agg [(.int .i64 0), (.int .i64 0), (.int .i64 0)]), none⟩,
  ⟨none, .st 3 (.t 7) (.t 51), none⟩,
  ⟨none, .same (some none) (.t 52) (.t 53), none⟩,
  ⟨none, .same (some (some 3)) (.t 55) (.t 56), none⟩,
  ⟨none, .st 3 (.t 8) (.t 56), none⟩]
abbrev o_config_parts_14 : List IOper := [⟨(some 57), .fa 0 (.t 7), none⟩,
  ⟨(some 58), .ld none (.t 57), none⟩,
  ⟨(some 59), .fa 0 (.t 8), none⟩,
  ⟨(some 60), .ld none (.t 59), none⟩,
  ⟨(some 61), .bin .eql (.t 58) (.t 60), none⟩,
  ⟨(some 62), .mv (.t 61), none⟩,
  ⟨(some 63), .fa 1 (.t 7), some (62, true)⟩,
  ⟨(some 64), .ld none (.t 63), some (62, true)⟩,
  ⟨(some 65), .fa 2 (.t 7), some (62, true)⟩,
  ⟨(some 66), .ld none (.t 65), some (62, true)⟩,
  ⟨(some 67), .fa 1 (.t 8), some (62, true)⟩,
  ⟨(some 68), .ld none (.t 67), some (62, true)⟩,
  ⟨(some 69), .fa 2 (.t 8), some (62, true)⟩,
  ⟨(some 70), .ld none (.t 69), some (62, true)⟩,
  ⟨(some 71), .call (.k (.c (.fn fn_config_meet [] []))) [(.t 64), (.t 66), (.t 68), (.t 70)], some (62, true)⟩,
  ⟨(some 72), .pick (.t 62) (.t 71) (.k (.c (.bool false))), none⟩]
abbrev o_config_parts_15 : List IOper := [⟨none, .st 1 (.t 2) (.k (.c (.bool false))), none⟩]
def a_config_parts_16 : IC := (.seq (.ops o_config_parts_11) (.ops o_config_parts_12))
def b_config_parts_17 : IC := (.block 3 (.seq (.ops o_config_parts_13) (.seq (.ops o_config_parts_14) (.cond (.t 72) (.seq (.ops o_config_parts_15) .ret) .skip))))
abbrev o_config_parts_18 : List IOper := [⟨none, .st 1 (.t 2) (.k (.c (.bool true))), none⟩]
def c_config_parts : IC := (.seq (.ops o_config_parts_0) (.seq (.seq (.ops o_config_parts_1) (.cond (.t 12) (.seq (.ops o_config_parts_2) .ret) .skip)) (.seq (.seq (.ops o_config_parts_3) (.block 0 (.loop b_config_parts_9))) (.seq (.seq (.ops o_config_parts_10) (.block 2 (.rangeF (.t 44) [45, 46] a_config_parts_16 b_config_parts_17))) (.seq (.ops o_config_parts_18) .ret)))))
def i_config_parts : IFn := ⟨73, c_config_parts, [(2, (some none))]⟩

-- F 46 rota/config.windows: bads 0, calls [56]
abbrev o_config_windows_0 : List IOper := [⟨(some 1), .box 28 (.t 0), none⟩,
  ⟨(some 2), .mv (.k (.c (.bool false))), none⟩]
abbrev o_config_windows_1 : List IOper := [⟨(some 7), .fa 9 (.t 1), none⟩,
  ⟨(some 8), .ld none (.t 7), none⟩,
  ⟨(some 9), .len false (.t 8), none⟩,
  ⟨(some 10), .fa 0 (.t 1), none⟩,
  ⟨(some 11), .ld none (.t 10), none⟩,
  ⟨(some 12), .bin .neq (.t 9) (.t 11), none⟩]
abbrev o_config_windows_2 : List IOper := [⟨(some 2), .mv (.k (.c (.bool false))), none⟩]
abbrev o_config_windows_3 : List IOper := [⟨(some 13), .fa 9 (.t 1), none⟩,
  ⟨(some 14), .ld none (.t 13), none⟩,
  ⟨(some 15), .len false (.t 14), none⟩,
  ⟨(some 16), .mv (.k (.c (.int .i64 0))), none⟩]
abbrev o_config_windows_4 : List IOper := [⟨(some 17), .bin .lss (.t 16) (.t 15), none⟩]
abbrev o_config_windows_5 : List IOper := [⟨(some 18), .mv (.t 16), none⟩,
  ⟨(some 19), .iaS 1 (.t 14) (.t 16), none⟩,
  ⟨(some 20), .ld none (.t 19), none⟩,
  ⟨(some 3), .mv (.t 18), none⟩,
  ⟨(some 4), .mv (.t 20), none⟩]
abbrev o_config_windows_6 : List IOper := [⟨(some 21), .mv (.t 4), none⟩,
  ⟨(some 22), .len false (.t 21), none⟩,
  ⟨(some 23), .fa 0 (.t 1), none⟩,
  ⟨(some 24), .ld none (.t 23), none⟩,
  ⟨(some 25), .bin .neq (.t 22) (.t 24), none⟩]
abbrev o_config_windows_7 : List IOper := [⟨(some 2), .mv (.k (.c (.bool false))), none⟩]
abbrev o_config_windows_8 : List IOper := [⟨(some 26), .mv (.t 4), none⟩,
  ⟨(some 27), .len false (.t 26), none⟩,
  ⟨(some 28), .mv (.k (.c (.int .i64 0))), none⟩]
abbrev o_config_windows_9 : List IOper := [⟨(some 29), .bin .lss (.t 28) (.t 27), none⟩]
abbrev o_config_windows_10 : List IOper := [⟨(some 30), .iaS 1 (.t 26) (.t 28), none⟩,
  ⟨(some 31), .ld none (.t 30), none⟩,
  ⟨(some 6), .mv (.t 31), none⟩]
abbrev o_config_windows_11 : List IOper := [⟨(some 32), .mv (.t 6), none⟩,
  ⟨(some 33), .bin .neq (.t 32) (.k (.c (.int .i64 (-1)))), none⟩,
  ⟨(some 34), .mv (.t 33), none⟩,
  ⟨(some 35), .mv (.t 6), some (34, true)⟩,
  ⟨(some 36), .fa 8 (.t 1), some (34, true)⟩,
  ⟨(some 37), .ld none (.t 36), some (34, true)⟩,
  ⟨(some 38), .len false (.t 37), some (34, true)⟩,
  ⟨(some 39), .bin .sub (.t 38) (.k (.c (.int .i64 1))), some (34, true)⟩,
  ⟨(some 40), .call (.k (.c (.fn fn_config_within [] []))) [(.t 35), (.k (.c (.int .i64 0))), (.t 39)], some (34, true)⟩,
  ⟨(some 41), .un .not (.t 40), some (34, true)⟩,
  ⟨(some 42), .mv (.t 41), some (34, true)⟩,
  ⟨(some 43), .fa 8 (.t 1), some (42, false)⟩,
  ⟨(some 44), .ld none (.t 43), some (42, false)⟩,
  ⟨(some 45), .mv (.t 6), some (42, false)⟩,
  ⟨(some 46), .iaS 3 (.t 44) (.t 45), some (42, false)⟩,
  ⟨(some 47), .fa 0 (.t 46), some (42, false)⟩,
  ⟨(some 48), .ld none (.t 47), some (42, false)⟩,
  ⟨(some 49), .mv (.t 3), some (42, false)⟩,
  ⟨(some 50), .bin .neq (.t 48) (.t 49), some (42, false)⟩,
  ⟨(some 51), .pick (.t 42) (.k (.c (.bool true))) (.t 50), some (34, true)⟩,
  ⟨(some 52), .pick (.t 34) (.t 51) (.k (.c (.bool false))), none⟩]
abbrev o_config_windows_12 : List IOper := [⟨(some 2), .mv (.k (.c (.bool false))), none⟩]
abbrev o_config_windows_13 : List IOper := [⟨(some 53), .bin .add (.t 28) (.k (.c (.int .i64 1))), none⟩,
  ⟨(some 28), .mv (.t 53), none⟩]
def b_config_windows_14 : IC := (.seq (.ops o_config_windows_9) (.seq (.cond (.t 29) .skip (.exit 2)) (.seq (.block 3 (.seq (.ops o_config_windows_10) (.seq (.ops o_config_windows_11) (.cond (.t 52) (.seq (.ops o_config_windows_12) .ret) .skip)))) (.ops o_config_windows_13))))
abbrev o_config_windows_15 : List IOper := [⟨(some 54), .bin .add (.t 16) (.k (.c (.int .i64 1))), none⟩,
  ⟨(some 16), .mv (.t 54), none⟩]
def b_config_windows_16 : IC := (.seq (.ops o_config_windows_4) (.seq (.cond (.t 17) .skip (.exit 0)) (.seq (.block 1 (.seq (.ops o_config_windows_5) (.seq (.seq (.ops o_config_windows_6) (.cond (.t 25) (.seq (.ops o_config_windows_7) .ret) .skip)) (.seq (.ops o_config_windows_8) (.block 2 (.loop b_config_windows_14)))))) (.ops o_config_windows_15))))
abbrev o_config_windows_17 : List IOper := [⟨(some 2), .mv (.k (.c (.bool true))), none⟩]
def c_config_windows : IC := (.seq (.ops o_config_windows_0) (.seq (.seq (.ops o_config_windows_1) (.cond (.t 12) (.seq (.ops o_config_windows_2) .ret) .skip)) (.seq (.seq (.ops o_config_windows_3) (.block 0 (.loop b_config_windows_16))) (.seq (.ops o_config_windows_17) .ret))))
def i_config_windows : IFn := ⟨55, c_config_windows, [(2, none)]⟩

-- F 47 rota/config.ports: bads 0, calls [56, 56, 56]
abbrev o_config_ports_0 : List IOper := [⟨(some 1), .box 28 (.t 0), none⟩,
  ⟨(some 2), .mv (.k (.c (.bool false))), none⟩]
abbrev o_config_ports_1 : List IOper := [⟨(some 7), .fa 10 (.t 1), none⟩,
  ⟨(some 8), .ld none (.t 7), none⟩,
  ⟨(some 9), .len false (.t 8), none⟩,
  ⟨(some 10), .bin .gtr (.t 9) (.k (.c (.int .i64 64))), none⟩]
abbrev o_config_ports_2 : List IOper := [⟨(some 2), .mv (.k (.c (.bool false))), none⟩]
abbrev o_config_ports_3 : List IOper := [⟨(some 11), .fa 10 (.t 1), none⟩,
  ⟨(some 12), .ld none (.t 11), none⟩,
  ⟨(some 13), .len false (.t 12), none⟩,
  ⟨(some 14), .mv (.k (.c (.int .i64 0))), none⟩]
abbrev o_config_ports_4 : List IOper := [⟨(some 15), .bin .lss (.t 14) (.t 13), none⟩]
abbrev o_config_ports_5 : List IOper := [⟨(some 16), .iaS 6 (.t 12) (.t 14), none⟩,
  ⟨(some 17), .ld (some 6) (.t 16), none⟩,
  ⟨(some 4), .new 98 (.agg (List.replicate 6 (.int .i64 0))), none⟩,
  ⟨none, .st 6 (.t 4) (.t 17), none⟩]
abbrev o_config_ports_6 : List IOper := [⟨(some 5), .mv (.k (.c (.int .i64 0))), none⟩,
  ⟨(some 6), .mv (.k (.c (.int .i64 0))), none⟩]
abbrev o_config_ports_7 : List IOper := [⟨(some 19), .fa 1 (.t 4), none⟩,
  ⟨(some 20), .ld none (.t 19), none⟩,
  ⟨(some 21), .bin .eql (.t 20) (.k (.c (.int .i64 2))), none⟩,
  ⟨(some 18), .mv (.t 21), none⟩]
abbrev o_config_ports_8 : List IOper := [⟨(some 22), .fa 4 (.t 4), none⟩,
  ⟨(some 23), .ld none (.t 22), none⟩,
  ⟨(some 24), .mn (.t 23) [(.k (.c (.int .i64 8)))], none⟩,
  ⟨(some 25), .mx (.k (.c (.int .i64 1))) [(.t 24)], none⟩,
  ⟨(some 5), .mv (.t 25), none⟩]
abbrev o_config_ports_9 : List IOper := [⟨(some 27), .fa 1 (.t 4), none⟩,
  ⟨(some 28), .ld none (.t 27), none⟩,
  ⟨(some 29), .bin .eql (.t 28) (.k (.c (.int .i64 1))), none⟩,
  ⟨(some 30), .mv (.t 29), none⟩,
  ⟨(some 31), .fa 2 (.t 4), some (30, true)⟩,
  ⟨(some 32), .ld none (.t 31), some (30, true)⟩,
  ⟨(some 33), .bin .eql (.t 32) (.k (.c (.int .i64 2))), some (30, true)⟩,
  ⟨(some 34), .pick (.t 30) (.t 33) (.k (.c (.bool false))), none⟩,
  ⟨(some 26), .mv (.t 34), none⟩]
abbrev o_config_ports_10 : List IOper := [⟨(some 35), .fa 5 (.t 4), none⟩,
  ⟨(some 36), .ld none (.t 35), none⟩,
  ⟨(some 37), .mn (.t 36) [(.k (.c (.int .i64 65535)))], none⟩,
  ⟨(some 38), .mx (.k (.c (.int .i64 1))) [(.t 37)], none⟩,
  ⟨(some 6), .mv (.t 38), none⟩]
abbrev o_config_ports_11 : List IOper := [⟨(some 40), .fa 1 (.t 4), none⟩,
  ⟨(some 41), .ld none (.t 40), none⟩,
  ⟨(some 42), .bin .neq (.t 41) (.k (.c (.int .i64 1))), none⟩,
  ⟨(some 39), .mv (.t 42), none⟩]
abbrev o_config_ports_12 : List IOper := [⟨(some 2), .mv (.k (.c (.bool false))), none⟩]
abbrev o_config_ports_13 : List IOper := [⟨(some 43), .fa 0 (.t 4), none⟩,
  ⟨(some 44), .ld none (.t 43), none⟩,
  ⟨(some 45), .fa 8 (.t 1), none⟩,
  ⟨(some 46), .ld none (.t 45), none⟩,
  ⟨(some 47), .len false (.t 46), none⟩,
  ⟨(some 48), .bin .sub (.t 47) (.k (.c (.int .i64 1))), none⟩,
  ⟨(some 49), .call (.k (.c (.fn fn_config_within [] []))) [(.t 44), (.k (.c (.int .i64 0))), (.t 48)], none⟩,
  ⟨(some 50), .un .not (.t 49), none⟩,
  ⟨(some 51), .mv (.t 50), none⟩,
  ⟨(some 52), .fa 2 (.t 4), some (51, false)⟩,
  ⟨(some 53), .ld none (.t 52), some (51, false)⟩,
  ⟨(some 54), .call (.k (.c (.fn fn_config_within [] []))) [(.t 53), (.k (.c (.int .i64 1))), (.k (.c (.int .i64 2)))], some (51, false)⟩,
  ⟨(some 55), .un .not (.t 54), some (51, false)⟩,
  ⟨(some 56), .pick (.t 51) (.k (.c (.bool true))) (.t 55), none⟩,
  ⟨(some 57), .mv (.t 56), none⟩,
  ⟨(some 58), .fa 3 (.t 4), some (57, false)⟩,
  ⟨(some 59), .ld none (.t 58), some (57, false)⟩,
  ⟨(some 60), .call (.k (.c (.fn fn_config_within [] []))) [(.t 59), (.k (.c (.int .i64 1))), (.k (.c (.int .i64 32)))], some (57, false)⟩,
  ⟨(some 61), .un .not (.t 60), some (57, false)⟩,
  ⟨(some 62), .pick (.t 57) (.k (.c (.bool true))) (.t 61), none⟩,
  ⟨(some 63), .mv (.t 62), none⟩,
  ⟨(some 64), .fa 4 (.t 4), some (63, false)⟩,
  ⟨(some 65), .ld none (.t 64), some (63, false)⟩,
  ⟨(some 66), .mv (.t 5), some (63, false)⟩,
  ⟨(some 67), .bin .neq (.t 65) (.t 66), some (63, false)⟩,
  ⟨(some 68), .pick (.t 63) (.k (.c (.bool true))) (.t 67), none⟩,
  ⟨(some 69), .mv (.t 68), none⟩,
  ⟨(some 70), .fa 5 (.t 4), some (69, false)⟩,
  ⟨(some 71), .ld none (.t 70), some (69, false)⟩,
  ⟨(some 72), .mv (.t 6), some (69, false)⟩,
  ⟨(some 73), .bin .neq (.t 71) (.t 72), some (69, false)⟩,
  ⟨(some 74), .pick (.t 69) (.k (.c (.bool true))) (.t 73), none⟩]
abbrev o_config_ports_14 : List IOper := [⟨(some 2), .mv (.k (.c (.bool false))), none⟩]
abbrev o_config_ports_15 : List IOper := [⟨(some 75), .bin .add (.t 14) (.k (.c (.int .i64 1))), none⟩,
  ⟨(some 14), .mv (.t 75), none⟩]
def b_config_ports_16 : IC := (.seq (.ops o_config_ports_4) (.seq (.cond (.t 15) .skip (.exit 0)) (.seq (.block 1 (.seq (.ops o_config_ports_5) (.seq (.ops o_config_ports_6) (.seq (.block 2 (.seq (.ops o_config_ports_7) (.cond (.t 18) (.ops o_config_ports_8) (.seq (.ops o_config_ports_9) (.cond (.t 26) (.ops o_config_ports_10) (.seq (.ops o_config_ports_11) (.cond (.t 39) (.seq (.ops o_config_ports_12) .ret) .skip))))))) (.seq (.ops o_config_ports_13) (.cond (.t 74) (.seq (.ops o_config_ports_14) .ret) .skip)))))) (.ops o_config_ports_15))))
abbrev o_config_ports_17 : List IOper := [⟨(some 2), .mv (.k (.c (.bool true))), none⟩]
def c_config_ports : IC := (.seq (.ops o_config_ports_0) (.seq (.seq (.ops o_config_ports_1) (.cond (.t 10) (.seq (.ops o_config_ports_2) .ret) .skip)) (.seq (.seq (.ops o_config_ports_3) (.block 0 (.loop b_config_ports_16))) (.seq (.ops o_config_ports_17) .ret))))
def i_config_ports : IFn := ⟨76, c_config_ports, [(2, none)]⟩

-- F 48 rota/config.links: bads 0, calls [61, 56, 61, 59, 60]
abbrev o_config_links_0 : List IOper := [⟨(some 1), .box 28 (.t 0), none⟩,
  ⟨(some 2), .new 4 (.c (.bool false)), none⟩]
abbrev o_config_links_1 : List IOper := [⟨(some 18), .fa 11 (.t 1), none⟩,
  ⟨(some 19), .ld none (.t 18), none⟩,
  ⟨(some 20), .len false (.t 19), none⟩,
  ⟨(some 21), .bin .gtr (.t 20) (.k (.c (.int .i64 64))), none⟩]
abbrev o_config_links_2 : List IOper := [⟨none, .st 1 (.t 2) (.k (.c (.bool false))), none⟩]
abbrev o_config_links_3 : List IOper := [⟨(some 22), .fa 10 (.t 1), none⟩,
  ⟨(some 23), .ld none (.t 22), none⟩,
  ⟨(some 24), .len false (.t 23), none⟩,
  ⟨(some 25), .mksl 3 1 8 [(.int .i64 0)] (.t 24) (.t 24), none⟩,
  ⟨(some 3), .mv (.t 25), none⟩]
abbrev o_config_links_4 : List IOper := [⟨(some 26), .fa 11 (.t 1), none⟩,
  ⟨(some 27), .ld none (.t 26), none⟩,
  ⟨(some 28), .len false (.t 27), none⟩,
  ⟨(some 29), .mv (.k (.c (.int .i64 0))), none⟩]
abbrev o_config_links_5 : List IOper := [⟨(some 30), .bin .lss (.t 29) (.t 28), none⟩]
abbrev o_config_links_6 : List IOper := [⟨(some 31), .iaS 3 (.t 27) (.t 29), none⟩,
  ⟨(some 32), .ld (some 3) (.t 31), none⟩,
  ⟨(some 5), .new 100 (.agg [(.int .i64 0), (.sl none 0 0 false), (.int .i64 0)]), none⟩,
  ⟨none, .st 3 (.t 5) (.t 32), none⟩]
abbrev o_config_links_7 : List IOper := [⟨(some 34), .ld (some 12) (.t 1), none⟩,
  ⟨(some 35), .fa 0 (.t 5), none⟩,
  ⟨(some 36), .ld none (.t 35), none⟩,
  ⟨(some 37), .call (.k (.c (.fn fn_config_port [] []))) [(.t 34), (.t 36)], none⟩,
  ⟨(some 33), .mv (.t 37), none⟩,
  ⟨(some 38), .ext (.t 33) 0, none⟩,
  ⟨(some 39), .ext (.t 33) 1, none⟩,
  ⟨(some 6), .new 98 (.agg (List.replicate 6 (.int .i64 0))), none⟩,
  ⟨none, .st 6 (.t 6) (.t 38), none⟩,
  ⟨(some 7), .mv (.t 39), none⟩]
abbrev o_config_links_8 : List IOper := [⟨(some 40), .mv (.t 7), none⟩,
  ⟨(some 41), .un .not (.t 40), none⟩,
  ⟨(some 42), .mv (.t 41), none⟩,
  ⟨(some 43), .fa 2 (.t 6), some (42, false)⟩,
  ⟨(some 44), .ld none (.t 43), some (42, false)⟩,
  ⟨(some 45), .bin .neq (.t 44) (.k (.c (.int .i64 1))), some (42, false)⟩,
  ⟨(some 46), .pick (.t 42) (.k (.c (.bool true))) (.t 45), none⟩,
  ⟨(some 47), .mv (.t 46), none⟩,
  ⟨(some 48), .fa 1 (.t 5), some (47, false)⟩,
  ⟨(some 49), .ld none (.t 48), some (47, false)⟩,
  ⟨(some 50), .len false (.t 49), some (47, false)⟩,
  ⟨(some 51), .bin .eql (.t 50) (.k (.c (.int .i64 0))), some (47, false)⟩,
  ⟨(some 52), .pick (.t 47) (.k (.c (.bool true))) (.t 51), none⟩,
  ⟨(some 53), .mv (.t 52), none⟩,
  ⟨(some 54), .fa 2 (.t 5), some (53, false)⟩,
  ⟨(some 55), .ld none (.t 54), some (53, false)⟩,
  ⟨(some 56), .fa 3 (.t 6), some (53, false)⟩,
  ⟨(some 57), .ld none (.t 56), some (53, false)⟩,
  ⟨(some 58), .bin .sub (.k (.c (.int .i64 63))) (.t 57), some (53, false)⟩,
  ⟨(some 59), .call (.k (.c (.fn fn_config_within [] []))) [(.t 55), (.k (.c (.int .i64 0))), (.t 58)], some (53, false)⟩,
  ⟨(some 60), .un .not (.t 59), some (53, false)⟩,
  ⟨(some 61), .pick (.t 53) (.k (.c (.bool true))) (.t 60), none⟩,
  ⟨(some 62), .mv (.t 61), none⟩,
  ⟨(some 63), .mv (.t 3), some (62, false)⟩,
  ⟨(some 64), .fa 0 (.t 5), some (62, false)⟩,
  ⟨(some 65), .ld none (.t 64), some (62, false)⟩,
  ⟨(some 66), .iaS 1 (.t 63) (.t 65), some (62, false)⟩,
  ⟨(some 67), .ld none (.t 66), some (62, false)⟩,
  ⟨(some 68), .bin .gtr (.t 67) (.k (.c (.int .i64 0))), some (62, false)⟩,
  ⟨(some 69), .pick (.t 62) (.k (.c (.bool true))) (.t 68), none⟩]
abbrev o_config_links_9 : List IOper := [⟨none, .st 1 (.t 2) (.k (.c (.bool false))), none⟩]
abbrev o_config_links_10 : List IOper := [⟨(some 70), .mv (.t 3), none⟩,
  ⟨(some 71), .fa 0 (.t 5), none⟩,
  ⟨(some 72), .ld none (.t 71), none⟩,
  ⟨(some 73), .iaS 1 (.t 70) (.t 72), none⟩,
  ⟨(some 74), .ld none (.t 73), none⟩,
  ⟨(some 75), .bin .add (.t 74) (.k (.c (.int .i64 1))), none⟩,
  ⟨(some 76), .iaS 1 (.t 70) (.t 72), none⟩,
  ⟨none, .st 1 (.t 76) (.t 75), none⟩]
abbrev o_config_links_11 : List IOper := [⟨(some 77), .fa 1 (.t 5), none⟩,
  ⟨(some 78), .ld none (.t 77), none⟩,
  ⟨(some 79), .len false (.t 78), none⟩,
  ⟨(some 80), .mv (.k (.c (.int .i64 0))), none⟩]
abbrev o_config_links_12 : List IOper := [⟨(some 81), .bin .lss (.t 80) (.t 79), none⟩]
abbrev o_config_links_13 : List IOper := [⟨(some 82), .mv (.t 80), none⟩,
  ⟨(some 83), .iaS 1 (.t 78) (.t 80), none⟩,
  ⟨(some 84), .ld none (.t 83), none⟩,
  ⟨(some 8), .mv (.t 82), none⟩,
  ⟨(some 9), .mv (.t 84), none⟩]
abbrev o_config_links_14 : List IOper := [⟨(some 86), .ld (some 12) (.t 1), none⟩,
  ⟨(some 87), .mv (.t 9), none⟩,
  ⟨(some 88), .call (.k (.c (.fn fn_config_port [] []))) [(.t 86), (.t 87)], none⟩,
  ⟨(some 85), .mv (.t 88), none⟩,
  ⟨(some 89), .ext (.t 85) 0, none⟩,
  ⟨(some 90), .ext (.t 85) 1, none⟩,
  ⟨(some 10), .new 98 (.agg (List.replicate 6 (.int .i64 0))), none⟩,
  ⟨none, .st 6 (.t 10) (.t 89), none⟩,
  ⟨(some 11), .mv (.t 90), none⟩]
abbrev o_config_links_15 : List IOper := [⟨(some 91), .mv (.t 11), none⟩,
  ⟨(some 92), .un .not (.t 91), none⟩,
  ⟨(some 93), .mv (.t 92), none⟩,
  ⟨(some 94), .fa 2 (.t 10), some (93, false)⟩,
  ⟨(some 95), .ld none (.t 94), some (93, false)⟩,
  ⟨(some 96), .bin .neq (.t 95) (.k (.c (.int .i64 2))), some (93, false)⟩,
  ⟨(some 97), .pick (.t 93) (.k (.c (.bool true))) (.t 96), none⟩,
  ⟨(some 98), .mv (.t 97), none⟩,
  ⟨(some 99), .fa 1 (.t 10), some (98, false)⟩,
  ⟨(some 100), .ld none (.t 99), some (98, false)⟩,
  ⟨(some 101), .fa 1 (.t 6), some (98, false)⟩,
  ⟨(some 102), .ld none (.t 101), some (98, false)⟩,
  ⟨(some 103), .bin .neq (.t 100) (.t 102), some (98, false)⟩,
  ⟨(some 104), .pick (.t 98) (.k (.c (.bool true))) (.t 103), none⟩,
  ⟨(some 105), .mv (.t 104), none⟩,
  ⟨(some 106), .fa 3 (.t 10), some (105, false)⟩,
  ⟨(some 107), .ld none (.t 106), some (105, false)⟩,
  ⟨(some 108), .fa 3 (.t 6), some (105, false)⟩,
  ⟨(some 109), .ld none (.t 108), some (105, false)⟩,
  ⟨(some 110), .bin .neq (.t 107) (.t 109), some (105, false)⟩,
  ⟨(some 111), .pick (.t 105) (.k (.c (.bool true))) (.t 110), none⟩,
  ⟨(some 112), .mv (.t 111), none⟩,
  ⟨(some 113), .mv (.t 3), some (112, false)⟩,
  ⟨(some 114), .mv (.t 9), some (112, false)⟩,
  ⟨(some 115), .iaS 1 (.t 113) (.t 114), some (112, false)⟩,
  ⟨(some 116), .ld none (.t 115), some (112, false)⟩,
  ⟨(some 117), .bin .gtr (.t 116) (.k (.c (.int .i64 0))), some (112, false)⟩,
  ⟨(some 118), .pick (.t 112) (.k (.c (.bool true))) (.t 117), none⟩]
abbrev o_config_links_16 : List IOper := [⟨none, .st 1 (.t 2) (.k (.c (.bool false))), none⟩]
abbrev o_config_links_17 : List IOper := [⟨(some 119), .mv (.t 3), none⟩,
  ⟨(some 120), .mv (.t 9), none⟩,
  ⟨(some 121), .iaS 1 (.t 119) (.t 120), none⟩,
  ⟨(some 122), .ld none (.t 121), none⟩,
  ⟨(some 123), .bin .add (.t 122) (.k (.c (.int .i64 1))), none⟩,
  ⟨(some 124), .iaS 1 (.t 119) (.t 120), none⟩,
  ⟨none, .st 1 (.t 124) (.t 123), none⟩]
abbrev o_config_links_18 : List IOper := [⟨(some 125), .mv (.t 8), none⟩,
  ⟨(some 126), .fa 1 (.t 5), none⟩,
  ⟨(some 127), .ld none (.t 126), none⟩,
  ⟨(some 128), .len false (.t 127), none⟩,
  ⟨(some 129), .bin .sub (.t 128) (.k (.c (.int .i64 1))), none⟩,
  ⟨(some 130), .bin .eql (.t 125) (.t 129), none⟩]
abbrev o_config_links_19 : List IOper := [⟨(some 131), .bin .add (.t 80) (.k (.c (.int .i64 1))), none⟩,
  ⟨(some 80), .mv (.t 131), none⟩]
def b_config_links_20 : IC := (.seq (.ops o_config_links_12) (.seq (.cond (.t 81) .skip (.exit 2)) (.seq (.block 3 (.seq (.ops o_config_links_13) (.seq (.ops o_config_links_14) (.seq (.seq (.ops o_config_links_15) (.cond (.t 118) (.seq (.ops o_config_links_16) .ret) .skip)) (.seq (.ops o_config_links_17) (.seq (.ops o_config_links_18) (.cond (.t 130) (.exit 1) .skip))))))) (.ops o_config_links_19))))
abbrev o_config_links_21 : List IOper := [⟨(some 132), .bin .add (.t 29) (.k (.c (.int .i64 1))), none⟩,
  ⟨(some 29), .mv (.t 132), none⟩]
def b_config_links_22 : IC := (.seq (.ops o_config_links_5) (.seq (.cond (.t 30) .skip (.exit 0)) (.seq (.block 1 (.seq (.ops o_config_links_6) (.seq (.ops o_config_links_7) (.seq (.seq (.ops o_config_links_8) (.cond (.t 69) (.seq (.ops o_config_links_9) .ret) .skip)) (.seq (.ops o_config_links_10) (.seq (.ops o_config_links_11) (.block 2 (.loop b_config_links_20)))))))) (.ops o_config_links_21))))
abbrev o_config_links_23 : List IOper := [⟨(some 133), .fa 11 (.t 1), none⟩,
  ⟨(some 134), .ld none (.t 133), none⟩,
  ⟨(some 135), .len false (.t 134), none⟩,
  ⟨(some 136), .call (.k (.c (.fn fn_config_pairs [] []))) [(.t 135)], none⟩]
abbrev o_config_links_24 : List IOper := [⟨(some 12), .mv (.t 137), none⟩]
abbrev o_config_links_25 : List IOper := [⟨(some 13), .mv (.t 138), none⟩]
abbrev o_config_links_26 : List IOper := [⟨(some 146), .mv (.t 13), none⟩,
  ⟨(some 144), .fa 11 (.t 1), none⟩,
  ⟨(some 145), .ld none (.t 144), none⟩,
  ⟨(some 147), .iaS 3 (.t 145) (.t 146), none⟩,
  ⟨(some 148), .ld (some 3) (.t 147), none⟩,
  ⟨(some 141), .mv (.t 12), none⟩,
  ⟨(some 139), .fa 11 (.t 1), none⟩,
  ⟨(some 140), .ld none (.t 139), none⟩,
  ⟨(some 142), .iaS 3 (.t 140) (.t 141), none⟩,
  ⟨(some 143), .ld (some 3) (.t 142), none⟩,
  ⟨(some 14), .new 100 (.agg [(.int .i64 0), (.sl none 0 0 false), (.int .i64 0)]), none⟩,
  ⟨(some 15), .new 100 (.agg [(.int .i64 0), (.sl none 0 0 false), (.int .i64 0)]), none⟩,
  ⟨none, .st 3 (.t 14) (.t 143), none⟩,
  ⟨none, .same (some none) (.t 144) (.t 145), none⟩,
  ⟨none, .same (some (some 3)) (.t 147) (.t 148), none⟩,
  ⟨none, .st 3 (.t 15) (.t 148), none⟩]
abbrev o_config_links_27 : List IOper := [⟨(some 157), .fa 0 (.t 15), none⟩,
  ⟨(some 158), .ld none (.t 157), none⟩,
  ⟨(some 155), .fa 10 (.t 1), none⟩,
  ⟨(some 156), .ld none (.t 155), none⟩,
  ⟨(some 159), .iaS 6 (.t 156) (.t 158), none⟩,
  ⟨(some 160), .ld (some 6) (.t 159), none⟩,
  ⟨(some 151), .fa 0 (.t 14), none⟩,
  ⟨(some 152), .ld none (.t 151), none⟩,
  ⟨(some 149), .fa 10 (.t 1), none⟩,
  ⟨(some 150), .ld none (.t 149), none⟩,
  ⟨(some 153), .iaS 6 (.t 150) (.t 152), none⟩,
  ⟨(some 154), .ld (some 6) (.t 153), none⟩,
  ⟨(some 16), .new 98 (.agg (List.replicate 6 (.int .i64 0))), none⟩,
  ⟨(some 17), .new 98 (.agg (List.replicate 6 (.int .i64 0))), none⟩,
  ⟨none, .st 6 (.t 16) (.t 154), none⟩,
  ⟨none, .same (some none) (.t 157) (.t 158), none⟩,
  ⟨none, .same (some none) (.t 155) (.t 156), none⟩,
  ⟨none, .same (some (some 6)) (.t 159) (.t 160), none⟩,
  ⟨none, .st 6 (.t 17) (.t 160), none⟩]
abbrev o_config_links_28 : List IOper := [⟨(some 161), .fa 8 (.t 1), none⟩,
  ⟨(some 162), .ld none (.t 161), none⟩,
  ⟨(some 163), .fa 0 (.t 16), none⟩,
  ⟨(some 164), .ld none (.t 163), none⟩,
  ⟨(some 165), .iaS 3 (.t 162) (.t 164), none⟩,
  ⟨(some 166), .fa 0 (.t 165), none⟩,
  ⟨(some 167), .ld none (.t 166), none⟩,
  ⟨(some 168), .fa 8 (.t 1), none⟩,
  ⟨(some 169), .ld none (.t 168), none⟩,
  ⟨(some 170), .fa 0 (.t 17), none⟩,
  ⟨(some 171), .ld none (.t 170), none⟩,
  ⟨(some 172), .iaS 3 (.t 169) (.t 171), none⟩,
  ⟨(some 173), .fa 0 (.t 172), none⟩,
  ⟨(some 174), .ld none (.t 173), none⟩,
  ⟨(some 175), .bin .eql (.t 167) (.t 174), none⟩,
  ⟨(some 176), .mv (.t 175), none⟩,
  ⟨(some 177), .fa 2 (.t 14), some (176, true)⟩,
  ⟨(some 178), .ld none (.t 177), some (176, true)⟩,
  ⟨(some 179), .fa 2 (.t 14), some (176, true)⟩,
  ⟨(some 180), .ld none (.t 179), some (176, true)⟩,
  ⟨(some 181), .bin .add (.t 180) (.k (.c (.int .i64 1))), some (176, true)⟩,
  ⟨(some 182), .fa 3 (.t 16), some (176, true)⟩,
  ⟨(some 183), .ld none (.t 182), some (176, true)⟩,
  ⟨(some 184), .bin .add (.t 181) (.t 183), some (176, true)⟩,
  ⟨(some 185), .fa 2 (.t 15), some (176, true)⟩,
  ⟨(some 186), .ld none (.t 185), some (176, true)⟩,
  ⟨(some 187), .fa 2 (.t 15), some (176, true)⟩,
  ⟨(some 188), .ld none (.t 187), some (176, true)⟩,
  ⟨(some 189), .bin .add (.t 188) (.k (.c (.int .i64 1))), some (176, true)⟩,
  ⟨(some 190), .fa 3 (.t 17), some (176, true)⟩,
  ⟨(some 191), .ld none (.t 190), some (176, true)⟩,
  ⟨(some 192), .bin .add (.t 189) (.t 191), some (176, true)⟩,
  ⟨(some 193), .call (.k (.c (.fn fn_config_meet [] []))) [(.t 178), (.t 184), (.t 186), (.t 192)], some (176, true)⟩,
  ⟨(some 194), .pick (.t 176) (.t 193) (.k (.c (.bool false))), none⟩]
abbrev o_config_links_29 : List IOper := [⟨none, .st 1 (.t 2) (.k (.c (.bool false))), none⟩]
def a_config_links_30 : IC := (.seq (.ops o_config_links_24) (.ops o_config_links_25))
def b_config_links_31 : IC := (.block 5 (.seq (.ops o_config_links_26) (.seq (.ops o_config_links_27) (.seq (.ops o_config_links_28) (.cond (.t 194) (.seq (.ops o_config_links_29) .ret) .skip)))))
abbrev o_config_links_32 : List IOper := [⟨none, .st 1 (.t 2) (.k (.c (.bool true))), none⟩]
def c_config_links : IC := (.seq (.ops o_config_links_0) (.seq .skip (.seq (.seq (.ops o_config_links_1) (.cond (.t 21) (.seq (.ops o_config_links_2) .ret) .skip)) (.seq (.ops o_config_links_3) (.seq .skip (.seq (.seq (.ops o_config_links_4) (.block 0 (.loop b_config_links_22))) (.seq (.seq (.ops o_config_links_23) (.block 4 (.rangeF (.t 136) [137, 138] a_config_links_30 b_config_links_31))) (.seq (.ops o_config_links_32) .ret))))))))
def i_config_links : IFn := ⟨195, c_config_links, [(2, (some none))]⟩

-- F 49 rota/rotaref02.count: bads 0, calls []
abbrev o_rotaref02_count_0 : List IOper := [⟨(some 4), .mv (.k (.c (.int .i64 0))), none⟩]
abbrev o_rotaref02_count_1 : List IOper := [⟨(some 5), .mv (.k (.c (.int .i64 0))), none⟩]
abbrev o_rotaref02_count_2 : List IOper := [⟨(some 6), .mv (.k (.c (.int .i64 0))), none⟩]
abbrev o_rotaref02_count_3 : List IOper := [⟨(some 7), .mv (.t 6), none⟩,
  ⟨(some 8), .mv (.t 0), none⟩,
  ⟨(some 9), .len false (.t 8), none⟩,
  ⟨(some 10), .bin .lss (.t 7) (.t 9), none⟩]
abbrev o_rotaref02_count_4 : List IOper := [⟨(some 13), .mv (.t 0), none⟩,
  ⟨(some 14), .mv (.t 6), none⟩,
  ⟨(some 15), .iaS 1 (.t 13) (.t 14), none⟩,
  ⟨(some 16), .ld none (.t 15), none⟩,
  ⟨(some 17), .mv (.t 1), none⟩,
  ⟨(some 18), .bin .eql (.t 16) (.t 17), none⟩]
abbrev o_rotaref02_count_5 : List IOper := [⟨(some 19), .mv (.t 5), none⟩,
  ⟨(some 20), .bin .add (.t 19) (.k (.c (.int .i64 1))), none⟩,
  ⟨(some 5), .mv (.t 20), none⟩]
abbrev o_rotaref02_count_6 : List IOper := [⟨(some 11), .mv (.t 6), none⟩,
  ⟨(some 12), .bin .add (.t 11) (.k (.c (.int .i64 1))), none⟩,
  ⟨(some 6), .mv (.t 12), none⟩]
def b_rotaref02_count_7 : IC := (.seq (.seq (.ops o_rotaref02_count_3) (.cond (.t 10) .skip (.exit 0))) (.seq (.block 1 (.seq (.ops o_rotaref02_count_4) (.cond (.t 18) (.ops o_rotaref02_count_5) .skip))) (.ops o_rotaref02_count_6)))
abbrev o_rotaref02_count_8 : List IOper := [⟨(some 21), .mv (.t 5), none⟩,
  ⟨(some 4), .mv (.t 21), none⟩]
def c_rotaref02_count : IC := (.seq (.ops o_rotaref02_count_0) (.seq (.ops o_rotaref02_count_1) (.seq (.seq (.ops o_rotaref02_count_2) (.block 0 (.loop b_rotaref02_count_7))) (.seq (.ops o_rotaref02_count_8) .ret))))
def i_rotaref02_count : IFn := ⟨22, c_rotaref02_count, [(4, none)]⟩

-- F 50 rota/rotaref02.Precision: bads 0, calls []
abbrev o_rotaref02_Precision_0 : List IOper := [⟨(some 1), .box 28 (.t 0), none⟩,
  ⟨(some 2), .mv (.k (.c (.int .i64 0))), none⟩]
abbrev o_rotaref02_Precision_1 : List IOper := [⟨(some 3), .fa 2 (.t 1), none⟩,
  ⟨(some 4), .ld none (.t 3), none⟩,
  ⟨(some 5), .fa 3 (.t 1), none⟩,
  ⟨(some 6), .ld none (.t 5), none⟩,
  ⟨(some 7), .bin .add (.t 4) (.t 6), none⟩,
  ⟨(some 8), .bin .mul (.k (.c (.int .i64 2))) (.t 7), none⟩,
  ⟨(some 9), .bin .add (.t 8) (.k (.c (.int .i64 1))), none⟩,
  ⟨(some 2), .mv (.t 9), none⟩]
def c_rotaref02_Precision : IC := (.seq (.ops o_rotaref02_Precision_0) (.seq (.ops o_rotaref02_Precision_1) .ret))
def i_rotaref02_Precision : IFn := ⟨10, c_rotaref02_Precision, [(2, none)]⟩

-- F 51 rota/rotaref02.meet: bads 0, calls []
abbrev o_rotaref02_meet_0 : List IOper := [⟨(some 8), .mv (.k (.c (.bool false))), none⟩]
abbrev o_rotaref02_meet_1 : List IOper := [⟨(some 10), .mv (.t 0), none⟩,
  ⟨(some 9), .mv (.t 10), none⟩]
abbrev o_rotaref02_meet_2 : List IOper := [⟨(some 11), .mv (.t 9), none⟩,
  ⟨(some 12), .mv (.t 1), none⟩,
  ⟨(some 13), .bin .lss (.t 11) (.t 12), none⟩]
abbrev o_rotaref02_meet_3 : List IOper := [⟨(some 16), .mv (.t 9), none⟩,
  ⟨(some 17), .mv (.t 2), none⟩,
  ⟨(some 18), .bin .geq (.t 16) (.t 17), none⟩,
  ⟨(some 19), .mv (.t 18), none⟩,
  ⟨(some 20), .mv (.t 9), some (19, true)⟩,
  ⟨(some 21), .mv (.t 3), some (19, true)⟩,
  ⟨(some 22), .bin .lss (.t 20) (.t 21), some (19, true)⟩,
  ⟨(some 23), .pick (.t 19) (.t 22) (.k (.c (.bool false))), none⟩]
abbrev o_rotaref02_meet_4 : List IOper := [⟨(some 8), .mv (.k (.c (.bool true))), none⟩]
abbrev o_rotaref02_meet_5 : List IOper := [⟨(some 14), .mv (.t 9), none⟩,
  ⟨(some 15), .bin .add (.t 14) (.k (.c (.int .i64 1))), none⟩,
  ⟨(some 9), .mv (.t 15), none⟩]
def b_rotaref02_meet_6 : IC := (.seq (.seq (.ops o_rotaref02_meet_2) (.cond (.t 13) .skip (.exit 0))) (.seq (.block 1 (.seq (.ops o_rotaref02_meet_3) (.cond (.t 23) (.seq (.ops o_rotaref02_meet_4) .ret) .skip))) (.ops o_rotaref02_meet_5)))
abbrev o_rotaref02_meet_7 : List IOper := [⟨(some 8), .mv (.k (.c (.bool false))), none⟩]
def c_rotaref02_meet : IC := (.seq (.ops o_rotaref02_meet_0) (.seq (.seq (.ops o_rotaref02_meet_1) (.block 0 (.loop b_rotaref02_meet_6))) (.seq (.ops o_rotaref02_meet_7) .ret)))
def i_rotaref02_meet : IFn := ⟨24, c_rotaref02_meet, [(8, none)]⟩

-- F 52 rota/rotaref02.Alone: bads 0, calls []
abbrev o_rotaref02_Alone_0 : List IOper := [⟨(some 1), .box 98 (.t 0), none⟩,
  ⟨(some 2), .mv (.k (.c (.bool false))), none⟩]
abbrev o_rotaref02_Alone_1 : List IOper := [⟨(some 3), .fa 1 (.t 1), none⟩,
  ⟨(some 4), .ld none (.t 3), none⟩,
  ⟨(some 5), .bin .lss (.t 4) (.k (.c (.int .i64 1))), none⟩,
  ⟨(some 6), .mv (.t 5), none⟩,
  ⟨(some 7), .fa 1 (.t 1), some (6, false)⟩,
  ⟨(some 8), .ld none (.t 7), some (6, false)⟩,
  ⟨(some 9), .bin .gtr (.t 8) (.k (.c (.int .i64 2))), some (6, false)⟩,
  ⟨(some 10), .pick (.t 6) (.k (.c (.bool true))) (.t 9), none⟩,
  ⟨(some 11), .mv (.t 10), none⟩,
  ⟨(some 12), .fa 2 (.t 1), some (11, false)⟩,
  ⟨(some 13), .ld none (.t 12), some (11, false)⟩,
  ⟨(some 14), .bin .lss (.t 13) (.k (.c (.int .i64 1))), some (11, false)⟩,
  ⟨(some 15), .pick (.t 11) (.k (.c (.bool true))) (.t 14), none⟩,
  ⟨(some 16), .mv (.t 15), none⟩,
  ⟨(some 17), .fa 2 (.t 1), some (16, false)⟩,
  ⟨(some 18), .ld none (.t 17), some (16, false)⟩,
  ⟨(some 19), .bin .gtr (.t 18) (.k (.c (.int .i64 2))), some (16, false)⟩,
  ⟨(some 20), .pick (.t 16) (.k (.c (.bool true))) (.t 19), none⟩,
  ⟨(some 21), .mv (.t 20), none⟩,
  ⟨(some 22), .fa 3 (.t 1), some (21, false)⟩,
  ⟨(some 23), .ld none (.t 22), some (21, false)⟩,
  ⟨(some 24), .bin .lss (.t 23) (.k (.c (.int .i64 1))), some (21, false)⟩,
  ⟨(some 25), .pick (.t 21) (.k (.c (.bool true))) (.t 24), none⟩,
  ⟨(some 26), .mv (.t 25), none⟩,
  ⟨(some 27), .fa 3 (.t 1), some (26, false)⟩,
  ⟨(some 28), .ld none (.t 27), some (26, false)⟩,
  ⟨(some 29), .bin .gtr (.t 28) (.k (.c (.int .i64 32))), some (26, false)⟩,
  ⟨(some 30), .pick (.t 26) (.k (.c (.bool true))) (.t 29), none⟩]
abbrev o_rotaref02_Alone_2 : List IOper := [⟨(some 2), .mv (.k (.c (.bool false))), none⟩]
abbrev o_rotaref02_Alone_3 : List IOper := [⟨(some 31), .fa 1 (.t 1), none⟩,
  ⟨(some 32), .ld none (.t 31), none⟩,
  ⟨(some 33), .bin .eql (.t 32) (.k (.c (.int .i64 2))), none⟩]
abbrev o_rotaref02_Alone_4 : List IOper := [⟨(some 34), .fa 4 (.t 1), none⟩,
  ⟨(some 35), .ld none (.t 34), none⟩,
  ⟨(some 36), .bin .geq (.t 35) (.k (.c (.int .i64 1))), none⟩,
  ⟨(some 37), .mv (.t 36), none⟩,
  ⟨(some 38), .fa 4 (.t 1), some (37, true)⟩,
  ⟨(some 39), .ld none (.t 38), some (37, true)⟩,
  ⟨(some 40), .bin .leq (.t 39) (.k (.c (.int .i64 8))), some (37, true)⟩,
  ⟨(some 41), .pick (.t 37) (.t 40) (.k (.c (.bool false))), none⟩,
  ⟨(some 42), .mv (.t 41), none⟩,
  ⟨(some 43), .fa 5 (.t 1), some (42, true)⟩,
  ⟨(some 44), .ld none (.t 43), some (42, true)⟩,
  ⟨(some 45), .bin .eql (.t 44) (.k (.c (.int .i64 0))), some (42, true)⟩,
  ⟨(some 46), .pick (.t 42) (.t 45) (.k (.c (.bool false))), none⟩,
  ⟨(some 2), .mv (.t 46), none⟩]
abbrev o_rotaref02_Alone_5 : List IOper := [⟨(some 47), .fa 2 (.t 1), none⟩,
  ⟨(some 48), .ld none (.t 47), none⟩,
  ⟨(some 49), .bin .eql (.t 48) (.k (.c (.int .i64 2))), none⟩]
abbrev o_rotaref02_Alone_6 : List IOper := [⟨(some 50), .fa 4 (.t 1), none⟩,
  ⟨(some 51), .ld none (.t 50), none⟩,
  ⟨(some 52), .bin .eql (.t 51) (.k (.c (.int .i64 0))), none⟩,
  ⟨(some 53), .mv (.t 52), none⟩,
  ⟨(some 54), .fa 5 (.t 1), some (53, true)⟩,
  ⟨(some 55), .ld none (.t 54), some (53, true)⟩,
  ⟨(some 56), .bin .geq (.t 55) (.k (.c (.int .i64 1))), some (53, true)⟩,
  ⟨(some 57), .pick (.t 53) (.t 56) (.k (.c (.bool false))), none⟩,
  ⟨(some 58), .mv (.t 57), none⟩,
  ⟨(some 59), .fa 5 (.t 1), some (58, true)⟩,
  ⟨(some 60), .ld none (.t 59), some (58, true)⟩,
  ⟨(some 61), .bin .leq (.t 60) (.k (.c (.int .i64 65535))), some (58, true)⟩,
  ⟨(some 62), .pick (.t 58) (.t 61) (.k (.c (.bool false))), none⟩,
  ⟨(some 2), .mv (.t 62), none⟩]
abbrev o_rotaref02_Alone_7 : List IOper := [⟨(some 63), .fa 4 (.t 1), none⟩,
  ⟨(some 64), .ld none (.t 63), none⟩,
  ⟨(some 65), .bin .eql (.t 64) (.k (.c (.int .i64 0))), none⟩,
  ⟨(some 66), .mv (.t 65), none⟩,
  ⟨(some 67), .fa 5 (.t 1), some (66, true)⟩,
  ⟨(some 68), .ld none (.t 67), some (66, true)⟩,
  ⟨(some 69), .bin .eql (.t 68) (.k (.c (.int .i64 0))), some (66, true)⟩,
  ⟨(some 70), .pick (.t 66) (.t 69) (.k (.c (.bool false))), none⟩,
  ⟨(some 2), .mv (.t 70), none⟩]
def c_rotaref02_Alone : IC := (.seq (.ops o_rotaref02_Alone_0) (.seq (.seq (.ops o_rotaref02_Alone_1) (.cond (.t 30) (.seq (.ops o_rotaref02_Alone_2) .ret) .skip)) (.seq (.seq (.ops o_rotaref02_Alone_3) (.cond (.t 33) (.seq (.ops o_rotaref02_Alone_4) .ret) .skip)) (.seq (.seq (.ops o_rotaref02_Alone_5) (.cond (.t 49) (.seq (.ops o_rotaref02_Alone_6) .ret) .skip)) (.seq (.ops o_rotaref02_Alone_7) .ret)))))
def i_rotaref02_Alone : IFn := ⟨71, c_rotaref02_Alone, [(2, none)]⟩

-- F 53 rota/rotaref02.is: bads 0, calls []
abbrev o_rotaref02_is_0 : List IOper := [⟨(some 2), .box 28 (.t 0), none⟩,
  ⟨(some 4), .mv (.k (.c (.bool false))), none⟩]
abbrev o_rotaref02_is_1 : List IOper := [⟨(some 5), .mv (.t 1), none⟩,
  ⟨(some 6), .bin .geq (.t 5) (.k (.c (.int .i64 0))), none⟩,
  ⟨(some 7), .mv (.t 6), none⟩,
  ⟨(some 8), .mv (.t 1), some (7, true)⟩,
  ⟨(some 9), .fa 10 (.t 2), some (7, true)⟩,
  ⟨(some 10), .ld none (.t 9), some (7, true)⟩,
  ⟨(some 11), .len false (.t 10), some (7, true)⟩,
  ⟨(some 12), .bin .lss (.t 8) (.t 11), some (7, true)⟩,
  ⟨(some 13), .pick (.t 7) (.t 12) (.k (.c (.bool false))), none⟩,
  ⟨(some 4), .mv (.t 13), none⟩]
def c_rotaref02_is : IC := (.seq (.ops o_rotaref02_is_0) (.seq (.ops o_rotaref02_is_1) .ret))
def i_rotaref02_is : IFn := ⟨14, c_rotaref02_is, [(4, none)]⟩

-- F 54 sync/atomic.AddUint64: NO BODY

-- F 55 rota/frame.bits$1: bads 0, calls []
abbrev o_frame_bits_1_0 : List IOper := [⟨(some 4), .mv (.k (.c (.int .i64 0))), none⟩]
abbrev o_frame_bits_1_1 : List IOper := [⟨(some 5), .bin .lss (.t 4) (.k (.c (.int .i64 32))), none⟩]
abbrev o_frame_bits_1_2 : List IOper := [⟨(some 6), .mv (.t 4), none⟩,
  ⟨(some 3), .mv (.t 6), none⟩]
abbrev o_frame_bits_1_3 : List IOper := [⟨(some 7), .ld none (.t 1), none⟩,
  ⟨(some 8), .mv (.t 3), none⟩,
  ⟨(some 9), .bin .shr (.t 7) (.t 8), none⟩,
  ⟨(some 10), .bin .eql (.t 9) (.k (.c (.int .u32 0))), none⟩]
abbrev o_frame_bits_1_4 : List IOper := [⟨(some 11), .ld none (.t 1), none⟩,
  ⟨(some 12), .mv (.t 3), none⟩,
  ⟨(some 13), .bin .shr (.t 11) (.t 12), none⟩,
  ⟨(some 14), .bin .and (.t 13) (.k (.c (.int .u32 1))), none⟩,
  ⟨(some 15), .bin .eql (.t 14) (.k (.c (.int .u32 1))), none⟩,
  ⟨(some 16), .mv (.t 15), none⟩,
  ⟨(some 17), .mv (.t 0), some (16, true)⟩,
  ⟨(some 18), .mv (.t 3), some (16, true)⟩,
  ⟨(some 19), .call (.t 17) [(.t 18)], some (16, true)⟩,
  ⟨(some 20), .un .not (.t 19), some (16, true)⟩,
  ⟨(some 21), .pick (.t 16) (.t 20) (.k (.c (.bool false))), none⟩]
abbrev o_frame_bits_1_5 : List IOper := [⟨(some 22), .bin .add (.t 4) (.k (.c (.int .i64 1))), none⟩,
  ⟨(some 4), .mv (.t 22), none⟩]
def b_frame_bits_1_6 : IC := (.seq (.ops o_frame_bits_1_1) (.seq (.cond (.t 5) .skip (.exit 0)) (.seq (.block 1 (.seq (.ops o_frame_bits_1_2) (.seq (.seq (.ops o_frame_bits_1_3) (.cond (.t 10) (.exit 0) .skip)) (.seq (.ops o_frame_bits_1_4) (.cond (.t 21) (.exit 0) .skip))))) (.ops o_frame_bits_1_5))))
def c_frame_bits_1 : IC := (.seq .skip (.seq .skip (.seq (.ops o_frame_bits_1_0) (.block 0 (.loop b_frame_bits_1_6)))))
def i_frame_bits_1 : IFn := ⟨23, c_frame_bits_1, []⟩

-- F 56 rota/config.within: bads 0, calls []
abbrev o_config_within_0 : List IOper := [⟨(some 6), .mv (.k (.c (.bool false))), none⟩]
abbrev o_config_within_1 : List IOper := [⟨(some 7), .mv (.t 0), none⟩,
  ⟨(some 8), .mv (.t 1), none⟩,
  ⟨(some 9), .bin .geq (.t 7) (.t 8), none⟩,
  ⟨(some 10), .mv (.t 9), none⟩,
  ⟨(some 11), .mv (.t 0), some (10, true)⟩,
  ⟨(some 12), .mv (.t 2), some (10, true)⟩,
  ⟨(some 13), .bin .leq (.t 11) (.t 12), some (10, true)⟩,
  ⟨(some 14), .pick (.t 10) (.t 13) (.k (.c (.bool false))), none⟩,
  ⟨(some 6), .mv (.t 14), none⟩]
def c_config_within : IC := (.seq (.ops o_config_within_0) (.seq (.ops o_config_within_1) .ret))
def i_config_within : IFn := ⟨15, c_config_within, [(6, none)]⟩

-- F 57 slices.Contains[[]int,int]: bads 0, calls [62]
abbrev o_slices_Contains_int_int_0 : List IOper := [⟨(some 4), .mv (.k (.c (.bool false))), none⟩]
abbrev o_slices_Contains_int_int_1 : List IOper := [⟨(some 5), .mv (.t 0), none⟩,
  ⟨(some 6), .mv (.t 1), none⟩,
  ⟨(some 7), .call (.k (.c (.fn fn_slices_Index_int_int [] []))) [(.t 5), (.t 6)], none⟩,
  ⟨(some 8), .bin .geq (.t 7) (.k (.c (.int .i64 0))), none⟩,
  ⟨(some 4), .mv (.t 8), none⟩]
def c_slices_Contains_int_int : IC := (.seq (.ops o_slices_Contains_int_int_0) (.seq (.ops o_slices_Contains_int_int_1) .ret))
def i_slices_Contains_int_int : IFn := ⟨9, c_slices_Contains_int_int, [(4, none)]⟩
end Go.Proofs.Ytbgmbnikpjjmcaa.AM.D07
