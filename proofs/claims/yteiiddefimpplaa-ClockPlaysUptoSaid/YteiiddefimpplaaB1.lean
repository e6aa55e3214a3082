/- The functions of these laws as the abstract machine's code, printed by a program of this claim's. -/
import Derived.Test.YteiiddefimpplaaA4
set_option linter.unusedVariables false
set_option linter.unusedSimpArgs false
set_option linter.unusedSectionVars false
namespace Go.Proofs.Yteiiddefimpplaa.AM.D08
open Go Go.Proofs.Yteiiddefimpplaa.AM
abbrev fn_rotalaw08_ClockTogether : Nat := 3
abbrev fn_rotalaw08_ClockNear : Nat := 4
abbrev fn_rotalaw08_ClockPlays : Nat := 5
abbrev fn_rotalaw08_ClockNames : Nat := 6
abbrev fn_rotalaw08_alive : Nat := 7
abbrev fn_config_Check : Nat := 8
abbrev fn_config_Precision : Nat := 9
abbrev fn_clock_New : Nat := 10
abbrev fn_clock_Clock_Drift : Nat := 11
abbrev fn_rotalaw08_at : Nat := 12
abbrev fn_clock_Clock_Read : Nat := 13
abbrev fn_clock_Clock_Offset : Nat := 14
abbrev fn_clock_Clock_Hear : Nat := 15
abbrev fn_rotalaw08_far : Nat := 16
abbrev fn_clock_Clock_Fits : Nat := 17
abbrev fn_clock_Clock_Average : Nat := 18
abbrev fn_clock_Clock_Round : Nat := 19
abbrev fn_clock_Clock_Set : Nat := 20
abbrev fn_rotaref08_New : Nat := 21
abbrev fn_rotalaw08_step : Nat := 22
abbrev fn_rotalaw07_Four : Nat := 23
abbrev fn_config_fine : Nat := 24
abbrev fn_clock_Clock_none : Nat := 25
abbrev fn_clock_Clock_move : Nat := 26
abbrev fn_clock_cut_int : Nat := 27
abbrev fn_clock_Clock_of : Nat := 28
abbrev fn_slices_Sort_int_int : Nat := 29
abbrev fn_rotaref02_Check : Nat := 30
abbrev fn_rotaref08_Clock_Set : Nat := 31
abbrev fn_rotaref08_Clock_Drift : Nat := 32
abbrev fn_rotaref08_Clock_Read : Nat := 33
abbrev fn_rotaref08_Clock_Fits : Nat := 34
abbrev fn_rotaref08_Clock_Hear : Nat := 35
abbrev fn_rotaref08_Clock_Average : Nat := 36
abbrev fn_rotaref08_Clock_Round : Nat := 37
abbrev fn_config_nodes : Nat := 38
abbrev fn_config_clocks : Nat := 39
abbrev fn_config_parts : Nat := 40
abbrev fn_config_windows : Nat := 41
abbrev fn_config_ports : Nat := 42
abbrev fn_config_links : Nat := 43
abbrev fn_clock_Clock_of_1 : Nat := 44
abbrev fn_rotaref02_nodes : Nat := 47
abbrev fn_rotaref02_clock : Nat := 48
abbrev fn_rotaref02_parts : Nat := 49
abbrev fn_rotaref02_windows : Nat := 50
abbrev fn_rotaref02_ports : Nat := 51
abbrev fn_rotaref02_links : Nat := 52
abbrev fn_rotaref08_Cut : Nat := 53
abbrev fn_rotaref08_Is : Nat := 54
abbrev fn_rotaref08_Middle : Nat := 55
abbrev fn_config_within : Nat := 56
abbrev fn_slices_Contains_int_int : Nat := 57
abbrev fn_config_pairs : Nat := 58
abbrev fn_config_meet : Nat := 59
abbrev fn_config_port : Nat := 60
abbrev fn_rotaref02_count : Nat := 72
abbrev fn_rotaref02_Precision : Nat := 73
abbrev fn_rotaref02_meet : Nat := 74
abbrev fn_rotaref02_Alone : Nat := 75
abbrev fn_rotaref02_is : Nat := 76
abbrev fn_rotaref08_Half : Nat := 77
abbrev fn_slices_Index_int_int : Nat := 78
abbrev fn_config_pairs_1 : Nat := 79

-- F 3 rota/rotalaw08.ClockTogether: bads 0, calls [7, 8, 9, 10, 12, 11, 14, 12, 13, 15, 14, 14, 16, 17, 18, 19]
abbrev o_rotalaw08_ClockTogether_0 : List IOper := [⟨(some 4), .box 28 (.t 0), none⟩,
  ⟨(some 8), .mv (.k (.c (.bool false))), none⟩]
abbrev o_rotalaw08_ClockTogether_1 : List IOper := [⟨(some 27), .call (.k (.c (.fn fn_rotalaw08_alive [] []))) [], none⟩,
  ⟨(some 9), .mv (.t 27), none⟩]
abbrev o_rotalaw08_ClockTogether_2 : List IOper := [⟨(some 28), .ld (some 12) (.t 4), none⟩,
  ⟨(some 29), .call (.k (.c (.fn fn_config_Check [] []))) [(.t 28)], none⟩,
  ⟨(some 10), .mv (.t 29), none⟩]
abbrev o_rotalaw08_ClockTogether_3 : List IOper := [⟨(some 30), .mv (.t 10), none⟩,
  ⟨(some 31), .bin .neq (.t 30) (.k (.c (.int .i64 0))), none⟩,
  ⟨(some 32), .mv (.t 31), none⟩,
  ⟨(some 33), .mv (.t 9), some (32, false)⟩,
  ⟨(some 34), .un .not (.t 33), some (32, false)⟩,
  ⟨(some 35), .pick (.t 32) (.k (.c (.bool true))) (.t 34), none⟩]
abbrev o_rotalaw08_ClockTogether_4 : List IOper := [⟨(some 36), .mv (.t 9), none⟩,
  ⟨(some 8), .mv (.t 36), none⟩]
abbrev o_rotalaw08_ClockTogether_5 : List IOper := [⟨(some 37), .ld (some 12) (.t 4), none⟩,
  ⟨(some 38), .call (.k (.c (.fn fn_config_Precision [] []))) [(.t 37)], none⟩,
  ⟨(some 11), .mv (.t 38), none⟩]
abbrev o_rotalaw08_ClockTogether_6 : List IOper := [⟨(some 12), .mv (.k (.c (.sl none 0 0 false))), none⟩]
abbrev o_rotalaw08_ClockTogether_7 : List IOper := [⟨(some 13), .mv (.k (.c (.int .u16 0))), none⟩]
abbrev o_rotalaw08_ClockTogether_8 : List IOper := [⟨(some 14), .mv (.k (.c (.int .i64 0))), none⟩]
abbrev o_rotalaw08_ClockTogether_9 : List IOper := [⟨(some 39), .mv (.t 14), none⟩,
  ⟨(some 40), .fa 0 (.t 4), none⟩,
  ⟨(some 41), .ld none (.t 40), none⟩,
  ⟨(some 42), .bin .lss (.t 39) (.t 41), none⟩]
abbrev o_rotalaw08_ClockTogether_10 : List IOper := [⟨(some 46), .ld (some 12) (.t 4), none⟩,
  ⟨(some 47), .call (.k (.c (.fn fn_clock_New [] []))) [(.t 46)], none⟩,
  ⟨(some 45), .mv (.t 47), none⟩,
  ⟨(some 48), .ext (.t 45) 0, none⟩,
  ⟨(some 49), .ext (.t 45) 1, none⟩,
  ⟨(some 15), .mv (.t 48), none⟩,
  ⟨(some 16), .mv (.t 49), none⟩]
abbrev o_rotalaw08_ClockTogether_11 : List IOper := [⟨(some 50), .mv (.t 16), none⟩,
  ⟨(some 51), .bin .neq (.t 50) (.k (.c (.int .i64 0))), none⟩]
abbrev o_rotalaw08_ClockTogether_12 : List IOper := [⟨(some 8), .mv (.k (.c (.bool false))), none⟩]
abbrev o_rotalaw08_ClockTogether_13 : List IOper := [⟨(some 52), .mv (.t 12), none⟩,
  ⟨(some 53), .mv (.t 15), none⟩,
  ⟨(some 54), .bsl 35 1 [(.ptr none)] [(0, 1, (.t 53))], none⟩,
  ⟨(some 55), .app 35 1 8 (.t 52) (.t 54), none⟩,
  ⟨(some 12), .mv (.t 55), none⟩]
abbrev o_rotalaw08_ClockTogether_14 : List IOper := [⟨(some 56), .mv (.t 13), none⟩,
  ⟨(some 57), .mv (.t 14), none⟩,
  ⟨(some 58), .bin .shl (.k (.c (.int .u16 1))) (.t 57), none⟩,
  ⟨(some 59), .bin .or (.t 56) (.t 58), none⟩,
  ⟨(some 13), .mv (.t 59), none⟩]
abbrev o_rotalaw08_ClockTogether_15 : List IOper := [⟨(some 43), .mv (.t 14), none⟩,
  ⟨(some 44), .bin .add (.t 43) (.k (.c (.int .i64 1))), none⟩,
  ⟨(some 14), .mv (.t 44), none⟩]
def b_rotalaw08_ClockTogether_16 : IC := (.seq (.seq (.ops o_rotalaw08_ClockTogether_9) (.cond (.t 42) .skip (.exit 0))) (.seq (.block 1 (.seq (.ops o_rotalaw08_ClockTogether_10) (.seq (.seq (.ops o_rotalaw08_ClockTogether_11) (.cond (.t 51) (.seq (.ops o_rotalaw08_ClockTogether_12) .ret) .skip)) (.seq (.ops o_rotalaw08_ClockTogether_13) (.ops o_rotalaw08_ClockTogether_14))))) (.ops o_rotalaw08_ClockTogether_15)))
abbrev o_rotalaw08_ClockTogether_17 : List IOper := [⟨(some 17), .mv (.k (.c (.int .i64 0))), none⟩]
abbrev o_rotalaw08_ClockTogether_18 : List IOper := [⟨(some 60), .mv (.t 17), none⟩,
  ⟨(some 61), .mv (.t 3), none⟩,
  ⟨(some 62), .bin .lss (.t 60) (.t 61), none⟩,
  ⟨(some 63), .mv (.t 62), none⟩,
  ⟨(some 64), .mv (.t 17), some (63, true)⟩,
  ⟨(some 65), .bin .lss (.t 64) (.k (.c (.int .i64 20))), some (63, true)⟩,
  ⟨(some 66), .pick (.t 63) (.t 65) (.k (.c (.bool false))), none⟩]
abbrev o_rotalaw08_ClockTogether_19 : List IOper := [⟨(some 18), .mv (.k (.c (.int .i64 0))), none⟩]
abbrev o_rotalaw08_ClockTogether_20 : List IOper := [⟨(some 69), .mv (.t 18), none⟩,
  ⟨(some 70), .mv (.t 12), none⟩,
  ⟨(some 71), .len false (.t 70), none⟩,
  ⟨(some 72), .bin .lss (.t 69) (.t 71), none⟩]
abbrev o_rotalaw08_ClockTogether_21 : List IOper := [⟨(some 82), .mv (.t 12), none⟩,
  ⟨(some 83), .len false (.t 82), none⟩,
  ⟨(some 81), .mv (.t 17), none⟩,
  ⟨(some 84), .bin .mul (.t 81) (.t 83), none⟩,
  ⟨(some 80), .mv (.t 18), none⟩,
  ⟨(some 85), .bin .add (.t 80) (.t 84), none⟩,
  ⟨(some 79), .mv (.t 1), none⟩,
  ⟨(some 76), .mv (.t 18), none⟩,
  ⟨(some 75), .mv (.t 12), none⟩,
  ⟨(some 77), .iaS 1 (.t 75) (.t 76), none⟩,
  ⟨(some 78), .ld none (.t 77), none⟩,
  ⟨(some 86), .call (.k (.c (.fn fn_rotalaw08_at [] []))) [(.t 79), (.t 85), (.k (.c (.int .i64 1073741824)))], none⟩,
  ⟨none, .same (some none) (.t 77) (.t 78), none⟩,
  ⟨(some 87), .call (.k (.c (.fn fn_clock_Clock_Drift [] []))) [(.t 78), (.t 86)], none⟩]
abbrev o_rotalaw08_ClockTogether_22 : List IOper := [⟨(some 73), .mv (.t 18), none⟩,
  ⟨(some 74), .bin .add (.t 73) (.k (.c (.int .i64 1))), none⟩,
  ⟨(some 18), .mv (.t 74), none⟩]
def b_rotalaw08_ClockTogether_23 : IC := (.seq (.seq (.ops o_rotalaw08_ClockTogether_20) (.cond (.t 72) .skip (.exit 4))) (.seq (.block 5 (.ops o_rotalaw08_ClockTogether_21)) (.ops o_rotalaw08_ClockTogether_22)))
abbrev o_rotalaw08_ClockTogether_24 : List IOper := [⟨(some 19), .mv (.k (.c (.int .i64 0))), none⟩]
abbrev o_rotalaw08_ClockTogether_25 : List IOper := [⟨(some 88), .mv (.t 19), none⟩,
  ⟨(some 89), .mv (.t 12), none⟩,
  ⟨(some 90), .len false (.t 89), none⟩,
  ⟨(some 91), .bin .lss (.t 88) (.t 90), none⟩]
abbrev o_rotalaw08_ClockTogether_26 : List IOper := [⟨(some 20), .mv (.k (.c (.int .i64 0))), none⟩]
abbrev o_rotalaw08_ClockTogether_27 : List IOper := [⟨(some 94), .mv (.t 20), none⟩,
  ⟨(some 95), .mv (.t 12), none⟩,
  ⟨(some 96), .len false (.t 95), none⟩,
  ⟨(some 97), .bin .lss (.t 94) (.t 96), none⟩]
abbrev o_rotalaw08_ClockTogether_28 : List IOper := [⟨(some 116), .mv (.t 17), none⟩,
  ⟨(some 112), .mv (.t 12), none⟩,
  ⟨(some 113), .len false (.t 112), none⟩,
  ⟨(some 111), .mv (.t 20), none⟩,
  ⟨(some 114), .bin .mul (.t 111) (.t 113), none⟩,
  ⟨(some 110), .mv (.t 19), none⟩,
  ⟨(some 115), .bin .add (.t 110) (.t 114), none⟩,
  ⟨(some 117), .bin .add (.t 115) (.t 116), none⟩,
  ⟨(some 109), .mv (.t 2), none⟩,
  ⟨(some 105), .mv (.t 20), none⟩,
  ⟨(some 104), .mv (.t 12), none⟩,
  ⟨(some 106), .iaS 1 (.t 104) (.t 105), none⟩,
  ⟨(some 107), .ld none (.t 106), none⟩,
  ⟨(some 101), .mv (.t 19), none⟩,
  ⟨(some 100), .mv (.t 12), none⟩,
  ⟨(some 102), .iaS 1 (.t 100) (.t 101), none⟩,
  ⟨(some 103), .ld none (.t 102), none⟩,
  ⟨(some 108), .call (.k (.c (.fn fn_clock_Clock_Offset [] []))) [(.t 107)], none⟩,
  ⟨none, .same (some none) (.t 102) (.t 103), none⟩,
  ⟨(some 118), .call (.k (.c (.fn fn_rotalaw08_at [] []))) [(.t 109), (.t 117), (.k (.c (.int .i64 1073741824)))], none⟩,
  ⟨none, .same (some none) (.t 102) (.t 103), none⟩,
  ⟨(some 119), .call (.k (.c (.fn fn_clock_Clock_Read [] []))) [(.t 103), (.t 108), (.t 118)], none⟩,
  ⟨(some 21), .mv (.t 119), none⟩]
abbrev o_rotalaw08_ClockTogether_29 : List IOper := [⟨(some 120), .mv (.t 12), none⟩,
  ⟨(some 121), .mv (.t 19), none⟩,
  ⟨(some 122), .iaS 1 (.t 120) (.t 121), none⟩,
  ⟨(some 123), .ld none (.t 122), none⟩,
  ⟨(some 124), .mv (.t 20), none⟩,
  ⟨(some 125), .mv (.t 21), none⟩,
  ⟨(some 126), .call (.k (.c (.fn fn_clock_Clock_Hear [] []))) [(.t 123), (.t 124), (.t 125)], none⟩]
abbrev o_rotalaw08_ClockTogether_30 : List IOper := [⟨(some 138), .mv (.t 11), none⟩,
  ⟨(some 133), .mv (.t 20), none⟩,
  ⟨(some 132), .mv (.t 12), none⟩,
  ⟨(some 134), .iaS 1 (.t 132) (.t 133), none⟩,
  ⟨(some 135), .ld none (.t 134), none⟩,
  ⟨(some 128), .mv (.t 19), none⟩,
  ⟨(some 127), .mv (.t 12), none⟩,
  ⟨(some 129), .iaS 1 (.t 127) (.t 128), none⟩,
  ⟨(some 130), .ld none (.t 129), none⟩,
  ⟨(some 131), .call (.k (.c (.fn fn_clock_Clock_Offset [] []))) [(.t 130)], none⟩,
  ⟨none, .same (some none) (.t 134) (.t 135), none⟩,
  ⟨(some 136), .call (.k (.c (.fn fn_clock_Clock_Offset [] []))) [(.t 135)], none⟩,
  ⟨(some 137), .call (.k (.c (.fn fn_rotalaw08_far [] []))) [(.t 131), (.t 136)], none⟩,
  ⟨(some 139), .bin .gtr (.t 137) (.t 138), none⟩,
  ⟨(some 140), .mv (.t 139), none⟩,
  ⟨(some 145), .mv (.t 21), some (140, false)⟩,
  ⟨(some 142), .mv (.t 19), some (140, false)⟩,
  ⟨(some 141), .mv (.t 12), some (140, false)⟩,
  ⟨(some 143), .iaS 1 (.t 141) (.t 142), some (140, false)⟩,
  ⟨(some 144), .ld none (.t 143), some (140, false)⟩,
  ⟨(some 146), .call (.k (.c (.fn fn_clock_Clock_Fits [] []))) [(.t 144), (.t 145)], some (140, false)⟩,
  ⟨(some 147), .un .not (.t 146), some (140, false)⟩,
  ⟨(some 148), .pick (.t 140) (.k (.c (.bool true))) (.t 147), none⟩]
abbrev o_rotalaw08_ClockTogether_31 : List IOper := [⟨(some 8), .mv (.k (.c (.bool false))), none⟩]
abbrev o_rotalaw08_ClockTogether_32 : List IOper := [⟨(some 98), .mv (.t 20), none⟩,
  ⟨(some 99), .bin .add (.t 98) (.k (.c (.int .i64 1))), none⟩,
  ⟨(some 20), .mv (.t 99), none⟩]
def b_rotalaw08_ClockTogether_33 : IC := (.seq (.seq (.ops o_rotalaw08_ClockTogether_27) (.cond (.t 97) .skip (.exit 8))) (.seq (.block 9 (.seq (.ops o_rotalaw08_ClockTogether_28) (.seq (.ops o_rotalaw08_ClockTogether_29) (.seq (.ops o_rotalaw08_ClockTogether_30) (.cond (.t 148) (.seq (.ops o_rotalaw08_ClockTogether_31) .ret) .skip))))) (.ops o_rotalaw08_ClockTogether_32)))
abbrev o_rotalaw08_ClockTogether_34 : List IOper := [⟨(some 92), .mv (.t 19), none⟩,
  ⟨(some 93), .bin .add (.t 92) (.k (.c (.int .i64 1))), none⟩,
  ⟨(some 19), .mv (.t 93), none⟩]
def b_rotalaw08_ClockTogether_35 : IC := (.seq (.seq (.ops o_rotalaw08_ClockTogether_25) (.cond (.t 91) .skip (.exit 6))) (.seq (.block 7 (.seq (.ops o_rotalaw08_ClockTogether_26) (.block 8 (.loop b_rotalaw08_ClockTogether_33)))) (.ops o_rotalaw08_ClockTogether_34)))
abbrev o_rotalaw08_ClockTogether_36 : List IOper := [⟨(some 22), .mv (.k (.c (.int .i64 0))), none⟩]
abbrev o_rotalaw08_ClockTogether_37 : List IOper := [⟨(some 149), .mv (.t 22), none⟩,
  ⟨(some 150), .mv (.t 12), none⟩,
  ⟨(some 151), .len false (.t 150), none⟩,
  ⟨(some 152), .bin .lss (.t 149) (.t 151), none⟩]
abbrev o_rotalaw08_ClockTogether_38 : List IOper := [⟨(some 156), .mv (.t 12), none⟩,
  ⟨(some 157), .mv (.t 22), none⟩,
  ⟨(some 158), .iaS 1 (.t 156) (.t 157), none⟩,
  ⟨(some 159), .ld none (.t 158), none⟩,
  ⟨(some 160), .mv (.t 13), none⟩,
  ⟨(some 161), .mv (.t 22), none⟩,
  ⟨(some 162), .call (.k (.c (.fn fn_clock_Clock_Average [] []))) [(.t 159), (.t 160), (.t 161)], none⟩,
  ⟨(some 155), .mv (.t 162), none⟩,
  ⟨(some 163), .ext (.t 155) 0, none⟩,
  ⟨(some 164), .ext (.t 155) 1, none⟩,
  ⟨(some 23), .mv (.t 163), none⟩,
  ⟨(some 24), .mv (.t 164), none⟩]
abbrev o_rotalaw08_ClockTogether_39 : List IOper := [⟨(some 166), .mv (.t 12), none⟩,
  ⟨(some 167), .mv (.t 22), none⟩,
  ⟨(some 168), .iaS 1 (.t 166) (.t 167), none⟩,
  ⟨(some 169), .ld none (.t 168), none⟩,
  ⟨(some 170), .mv (.t 13), none⟩,
  ⟨(some 171), .mv (.t 22), none⟩,
  ⟨(some 172), .call (.k (.c (.fn fn_clock_Clock_Round [] []))) [(.t 169), (.t 170), (.t 171)], none⟩,
  ⟨(some 165), .mv (.t 172), none⟩,
  ⟨(some 173), .ext (.t 165) 0, none⟩,
  ⟨(some 174), .ext (.t 165) 1, none⟩,
  ⟨(some 25), .mv (.t 173), none⟩,
  ⟨(some 26), .mv (.t 174), none⟩]
abbrev o_rotalaw08_ClockTogether_40 : List IOper := [⟨(some 175), .mv (.t 26), none⟩,
  ⟨(some 176), .bin .neq (.t 175) (.k (.c (.int .i64 0))), none⟩,
  ⟨(some 177), .mv (.t 176), none⟩,
  ⟨(some 178), .mv (.t 23), some (177, false)⟩,
  ⟨(some 179), .mv (.t 25), some (177, false)⟩,
  ⟨(some 180), .bin .neq (.t 178) (.t 179), some (177, false)⟩,
  ⟨(some 181), .pick (.t 177) (.k (.c (.bool true))) (.t 180), none⟩]
abbrev o_rotalaw08_ClockTogether_41 : List IOper := [⟨(some 8), .mv (.k (.c (.bool false))), none⟩]
abbrev o_rotalaw08_ClockTogether_42 : List IOper := [⟨(some 153), .mv (.t 22), none⟩,
  ⟨(some 154), .bin .add (.t 153) (.k (.c (.int .i64 1))), none⟩,
  ⟨(some 22), .mv (.t 154), none⟩]
def b_rotalaw08_ClockTogether_43 : IC := (.seq (.seq (.ops o_rotalaw08_ClockTogether_37) (.cond (.t 152) .skip (.exit 10))) (.seq (.block 11 (.seq (.ops o_rotalaw08_ClockTogether_38) (.seq (.ops o_rotalaw08_ClockTogether_39) (.seq (.ops o_rotalaw08_ClockTogether_40) (.cond (.t 181) (.seq (.ops o_rotalaw08_ClockTogether_41) .ret) .skip))))) (.ops o_rotalaw08_ClockTogether_42)))
abbrev o_rotalaw08_ClockTogether_44 : List IOper := [⟨(some 67), .mv (.t 17), none⟩,
  ⟨(some 68), .bin .add (.t 67) (.k (.c (.int .i64 1))), none⟩,
  ⟨(some 17), .mv (.t 68), none⟩]
def b_rotalaw08_ClockTogether_45 : IC := (.seq (.seq (.ops o_rotalaw08_ClockTogether_18) (.cond (.t 66) .skip (.exit 2))) (.seq (.block 3 (.seq (.seq (.ops o_rotalaw08_ClockTogether_19) (.block 4 (.loop b_rotalaw08_ClockTogether_23))) (.seq (.seq (.ops o_rotalaw08_ClockTogether_24) (.block 6 (.loop b_rotalaw08_ClockTogether_35))) (.seq (.ops o_rotalaw08_ClockTogether_36) (.block 10 (.loop b_rotalaw08_ClockTogether_43)))))) (.ops o_rotalaw08_ClockTogether_44)))
abbrev o_rotalaw08_ClockTogether_46 : List IOper := [⟨(some 182), .mv (.t 9), none⟩,
  ⟨(some 8), .mv (.t 182), none⟩]
def c_rotalaw08_ClockTogether : IC := (.seq (.ops o_rotalaw08_ClockTogether_0) (.seq (.ops o_rotalaw08_ClockTogether_1) (.seq (.ops o_rotalaw08_ClockTogether_2) (.seq (.seq (.ops o_rotalaw08_ClockTogether_3) (.cond (.t 35) (.seq (.ops o_rotalaw08_ClockTogether_4) .ret) .skip)) (.seq (.ops o_rotalaw08_ClockTogether_5) (.seq (.ops o_rotalaw08_ClockTogether_6) (.seq (.ops o_rotalaw08_ClockTogether_7) (.seq (.seq (.ops o_rotalaw08_ClockTogether_8) (.block 0 (.loop b_rotalaw08_ClockTogether_16))) (.seq (.seq (.ops o_rotalaw08_ClockTogether_17) (.block 2 (.loop b_rotalaw08_ClockTogether_45))) (.seq (.ops o_rotalaw08_ClockTogether_46) .ret))))))))))
def i_rotalaw08_ClockTogether : IFn := ⟨183, c_rotalaw08_ClockTogether, [(8, none)]⟩

-- F 4 rota/rotalaw08.ClockNear: bads 0, calls [7, 8, 10, 12, 20, 12, 12, 13, 15, 18, 19, 14, 16]
abbrev o_rotalaw08_ClockNear_0 : List IOper := [⟨(some 4), .box 28 (.t 0), none⟩,
  ⟨(some 8), .mv (.k (.c (.bool false))), none⟩]
abbrev o_rotalaw08_ClockNear_1 : List IOper := [⟨(some 23), .call (.k (.c (.fn fn_rotalaw08_alive [] []))) [], none⟩,
  ⟨(some 9), .mv (.t 23), none⟩]
abbrev o_rotalaw08_ClockNear_2 : List IOper := [⟨(some 24), .ld (some 12) (.t 4), none⟩,
  ⟨(some 25), .call (.k (.c (.fn fn_config_Check [] []))) [(.t 24)], none⟩,
  ⟨(some 10), .mv (.t 25), none⟩]
abbrev o_rotalaw08_ClockNear_3 : List IOper := [⟨(some 26), .mv (.t 10), none⟩,
  ⟨(some 27), .bin .neq (.t 26) (.k (.c (.int .i64 0))), none⟩,
  ⟨(some 28), .mv (.t 27), none⟩,
  ⟨(some 29), .mv (.t 9), some (28, false)⟩,
  ⟨(some 30), .un .not (.t 29), some (28, false)⟩,
  ⟨(some 31), .pick (.t 28) (.k (.c (.bool true))) (.t 30), none⟩]
abbrev o_rotalaw08_ClockNear_4 : List IOper := [⟨(some 32), .mv (.t 9), none⟩,
  ⟨(some 8), .mv (.t 32), none⟩]
abbrev o_rotalaw08_ClockNear_5 : List IOper := [⟨(some 11), .new 49 (.agg [(.int .i64 0), (.int .i64 0)]), none⟩]
abbrev o_rotalaw08_ClockNear_6 : List IOper := [⟨(some 12), .mv (.k (.c (.int .u16 0))), none⟩]
abbrev o_rotalaw08_ClockNear_7 : List IOper := [⟨(some 13), .mv (.k (.c (.int .i64 0))), none⟩]
abbrev o_rotalaw08_ClockNear_8 : List IOper := [⟨(some 33), .mv (.t 13), none⟩,
  ⟨(some 34), .fa 0 (.t 4), none⟩,
  ⟨(some 35), .ld none (.t 34), none⟩,
  ⟨(some 36), .bin .lss (.t 33) (.t 35), none⟩]
abbrev o_rotalaw08_ClockNear_9 : List IOper := [⟨(some 39), .mv (.t 12), none⟩,
  ⟨(some 40), .mv (.t 13), none⟩,
  ⟨(some 41), .bin .shl (.k (.c (.int .u16 1))) (.t 40), none⟩,
  ⟨(some 42), .bin .or (.t 39) (.t 41), none⟩,
  ⟨(some 12), .mv (.t 42), none⟩]
abbrev o_rotalaw08_ClockNear_10 : List IOper := [⟨(some 37), .mv (.t 13), none⟩,
  ⟨(some 38), .bin .add (.t 37) (.k (.c (.int .i64 1))), none⟩,
  ⟨(some 13), .mv (.t 38), none⟩]
def b_rotalaw08_ClockNear_11 : IC := (.seq (.seq (.ops o_rotalaw08_ClockNear_8) (.cond (.t 36) .skip (.exit 0))) (.seq (.block 1 (.ops o_rotalaw08_ClockNear_9)) (.ops o_rotalaw08_ClockNear_10)))
abbrev o_rotalaw08_ClockNear_12 : List IOper := [⟨(some 43), .mv (.t 3), none⟩,
  ⟨(some 44), .mv (.t 12), none⟩,
  ⟨(some 45), .bin .and (.t 43) (.t 44), none⟩,
  ⟨(some 3), .mv (.t 45), none⟩]
abbrev o_rotalaw08_ClockNear_13 : List IOper := [⟨(some 46), .mv (.t 3), none⟩,
  ⟨(some 47), .bin .eql (.t 46) (.k (.c (.int .u16 0))), none⟩]
abbrev o_rotalaw08_ClockNear_14 : List IOper := [⟨(some 48), .mv (.t 9), none⟩,
  ⟨(some 8), .mv (.t 48), none⟩]
abbrev o_rotalaw08_ClockNear_15 : List IOper := [⟨(some 14), .mv (.k (.c (.int .i64 0))), none⟩]
abbrev o_rotalaw08_ClockNear_16 : List IOper := [⟨(some 49), .mv (.t 14), none⟩,
  ⟨(some 50), .bin .lss (.t 49) (.k (.c (.int .i64 2))), none⟩]
abbrev o_rotalaw08_ClockNear_17 : List IOper := [⟨(some 54), .ld (some 12) (.t 4), none⟩,
  ⟨(some 55), .call (.k (.c (.fn fn_clock_New [] []))) [(.t 54)], none⟩,
  ⟨(some 53), .mv (.t 55), none⟩,
  ⟨(some 56), .ext (.t 53) 0, none⟩,
  ⟨(some 57), .ext (.t 53) 1, none⟩,
  ⟨(some 15), .mv (.t 56), none⟩,
  ⟨(some 16), .mv (.t 57), none⟩]
abbrev o_rotalaw08_ClockNear_18 : List IOper := [⟨(some 58), .mv (.t 15), none⟩,
  ⟨(some 59), .mv (.t 1), none⟩,
  ⟨(some 60), .mv (.t 14), none⟩,
  ⟨(some 61), .call (.k (.c (.fn fn_rotalaw08_at [] []))) [(.t 59), (.t 60), (.k (.c (.int .i64 1073741824)))], none⟩,
  ⟨(some 62), .call (.k (.c (.fn fn_clock_Clock_Set [] []))) [(.t 58), (.t 61)], none⟩]
abbrev o_rotalaw08_ClockNear_19 : List IOper := [⟨(some 17), .mv (.k (.c (.int .i64 0))), none⟩]
abbrev o_rotalaw08_ClockNear_20 : List IOper := [⟨(some 63), .mv (.t 17), none⟩,
  ⟨(some 64), .fa 0 (.t 4), none⟩,
  ⟨(some 65), .ld none (.t 64), none⟩,
  ⟨(some 66), .bin .lss (.t 63) (.t 65), none⟩]
abbrev o_rotalaw08_ClockNear_21 : List IOper := [⟨(some 78), .fa 3 (.t 4), none⟩,
  ⟨(some 79), .ld none (.t 78), none⟩,
  ⟨(some 75), .mv (.t 17), none⟩,
  ⟨(some 76), .bin .mul (.k (.c (.int .i64 2))) (.t 75), none⟩,
  ⟨(some 74), .mv (.t 14), none⟩,
  ⟨(some 77), .bin .add (.t 74) (.t 76), none⟩,
  ⟨(some 73), .mv (.t 2), none⟩,
  ⟨(some 71), .mv (.t 17), none⟩,
  ⟨(some 70), .mv (.t 1), none⟩,
  ⟨(some 69), .mv (.t 15), none⟩,
  ⟨(some 72), .call (.k (.c (.fn fn_rotalaw08_at [] []))) [(.t 70), (.t 71), (.k (.c (.int .i64 1073741824)))], none⟩,
  ⟨none, .same (some none) (.t 78) (.t 79), none⟩,
  ⟨(some 80), .call (.k (.c (.fn fn_rotalaw08_at [] []))) [(.t 73), (.t 77), (.t 79)], none⟩,
  ⟨(some 81), .call (.k (.c (.fn fn_clock_Clock_Read [] []))) [(.t 69), (.t 72), (.t 80)], none⟩,
  ⟨(some 18), .mv (.t 81), none⟩]
abbrev o_rotalaw08_ClockNear_22 : List IOper := [⟨(some 82), .mv (.t 15), none⟩,
  ⟨(some 83), .mv (.t 17), none⟩,
  ⟨(some 84), .mv (.t 18), none⟩,
  ⟨(some 85), .call (.k (.c (.fn fn_clock_Clock_Hear [] []))) [(.t 82), (.t 83), (.t 84)], none⟩]
abbrev o_rotalaw08_ClockNear_23 : List IOper := [⟨(some 67), .mv (.t 17), none⟩,
  ⟨(some 68), .bin .add (.t 67) (.k (.c (.int .i64 1))), none⟩,
  ⟨(some 17), .mv (.t 68), none⟩]
def b_rotalaw08_ClockNear_24 : IC := (.seq (.seq (.ops o_rotalaw08_ClockNear_20) (.cond (.t 66) .skip (.exit 4))) (.seq (.block 5 (.seq (.ops o_rotalaw08_ClockNear_21) (.ops o_rotalaw08_ClockNear_22))) (.ops o_rotalaw08_ClockNear_23)))
abbrev o_rotalaw08_ClockNear_25 : List IOper := [⟨(some 87), .mv (.t 15), none⟩,
  ⟨(some 88), .mv (.t 3), none⟩,
  ⟨(some 89), .mv (.t 14), none⟩,
  ⟨(some 90), .call (.k (.c (.fn fn_clock_Clock_Average [] []))) [(.t 87), (.t 88), (.t 89)], none⟩,
  ⟨(some 86), .mv (.t 90), none⟩,
  ⟨(some 91), .ext (.t 86) 0, none⟩,
  ⟨(some 92), .ext (.t 86) 1, none⟩,
  ⟨(some 19), .mv (.t 91), none⟩,
  ⟨(some 20), .mv (.t 92), none⟩]
abbrev o_rotalaw08_ClockNear_26 : List IOper := [⟨(some 94), .mv (.t 15), none⟩,
  ⟨(some 95), .mv (.t 3), none⟩,
  ⟨(some 96), .mv (.t 14), none⟩,
  ⟨(some 97), .call (.k (.c (.fn fn_clock_Clock_Round [] []))) [(.t 94), (.t 95), (.t 96)], none⟩,
  ⟨(some 93), .mv (.t 97), none⟩,
  ⟨(some 98), .ext (.t 93) 0, none⟩,
  ⟨(some 99), .ext (.t 93) 1, none⟩,
  ⟨(some 21), .mv (.t 98), none⟩,
  ⟨(some 22), .mv (.t 99), none⟩]
abbrev o_rotalaw08_ClockNear_27 : List IOper := [⟨(some 100), .mv (.t 16), none⟩,
  ⟨(some 101), .bin .neq (.t 100) (.k (.c (.int .i64 0))), none⟩,
  ⟨(some 102), .mv (.t 101), none⟩,
  ⟨(some 103), .mv (.t 22), some (102, false)⟩,
  ⟨(some 104), .bin .neq (.t 103) (.k (.c (.int .i64 0))), some (102, false)⟩,
  ⟨(some 105), .pick (.t 102) (.k (.c (.bool true))) (.t 104), none⟩]
abbrev o_rotalaw08_ClockNear_28 : List IOper := [⟨(some 8), .mv (.k (.c (.bool false))), none⟩]
abbrev o_rotalaw08_ClockNear_29 : List IOper := [⟨(some 106), .mv (.t 19), none⟩,
  ⟨(some 107), .mv (.t 21), none⟩,
  ⟨(some 108), .bin .neq (.t 106) (.t 107), none⟩]
abbrev o_rotalaw08_ClockNear_30 : List IOper := [⟨(some 109), .mv (.t 9), none⟩,
  ⟨(some 8), .mv (.t 109), none⟩]
abbrev o_rotalaw08_ClockNear_31 : List IOper := [⟨(some 110), .mv (.t 14), none⟩,
  ⟨(some 111), .mv (.t 15), none⟩,
  ⟨(some 112), .call (.k (.c (.fn fn_clock_Clock_Offset [] []))) [(.t 111)], none⟩,
  ⟨(some 113), .iaA 2 1 (.t 11) (.t 110), none⟩,
  ⟨none, .st 1 (.t 113) (.t 112), none⟩]
abbrev o_rotalaw08_ClockNear_32 : List IOper := [⟨(some 51), .mv (.t 14), none⟩,
  ⟨(some 52), .bin .add (.t 51) (.k (.c (.int .i64 1))), none⟩,
  ⟨(some 14), .mv (.t 52), none⟩]
def b_rotalaw08_ClockNear_33 : IC := (.seq (.seq (.ops o_rotalaw08_ClockNear_16) (.cond (.t 50) .skip (.exit 2))) (.seq (.block 3 (.seq (.ops o_rotalaw08_ClockNear_17) (.seq (.ops o_rotalaw08_ClockNear_18) (.seq (.seq (.ops o_rotalaw08_ClockNear_19) (.block 4 (.loop b_rotalaw08_ClockNear_24))) (.seq (.ops o_rotalaw08_ClockNear_25) (.seq (.ops o_rotalaw08_ClockNear_26) (.seq (.seq (.ops o_rotalaw08_ClockNear_27) (.cond (.t 105) (.seq (.ops o_rotalaw08_ClockNear_28) .ret) .skip)) (.seq (.seq (.ops o_rotalaw08_ClockNear_29) (.cond (.t 108) (.seq (.ops o_rotalaw08_ClockNear_30) .ret) .skip)) (.ops o_rotalaw08_ClockNear_31))))))))) (.ops o_rotalaw08_ClockNear_32)))
abbrev o_rotalaw08_ClockNear_34 : List IOper := [⟨(some 114), .mv (.t 9), none⟩,
  ⟨(some 115), .mv (.t 114), none⟩,
  ⟨(some 121), .fa 3 (.t 4), some (115, true)⟩,
  ⟨(some 122), .ld none (.t 121), some (115, true)⟩,
  ⟨(some 123), .bin .mul (.k (.c (.int .i64 2))) (.t 122), some (115, true)⟩,
  ⟨(some 118), .iaA 2 1 (.t 11) (.k (.c (.int .i64 1))), some (115, true)⟩,
  ⟨(some 119), .ld none (.t 118), some (115, true)⟩,
  ⟨(some 116), .iaA 2 1 (.t 11) (.k (.c (.int .i64 0))), some (115, true)⟩,
  ⟨(some 117), .ld none (.t 116), some (115, true)⟩,
  ⟨(some 120), .call (.k (.c (.fn fn_rotalaw08_far [] []))) [(.t 117), (.t 119)], some (115, true)⟩,
  ⟨none, .same (some none) (.t 121) (.t 122), some (115, true)⟩,
  ⟨(some 124), .bin .leq (.t 120) (.t 123), some (115, true)⟩,
  ⟨(some 125), .pick (.t 115) (.t 124) (.k (.c (.bool false))), none⟩,
  ⟨(some 8), .mv (.t 125), none⟩]
def c_rotalaw08_ClockNear : IC := (.seq (.ops o_rotalaw08_ClockNear_0) (.seq (.ops o_rotalaw08_ClockNear_1) (.seq (.ops o_rotalaw08_ClockNear_2) (.seq (.seq (.ops o_rotalaw08_ClockNear_3) (.cond (.t 31) (.seq (.ops o_rotalaw08_ClockNear_4) .ret) .skip)) (.seq (.ops o_rotalaw08_ClockNear_5) (.seq (.ops o_rotalaw08_ClockNear_6) (.seq (.seq (.ops o_rotalaw08_ClockNear_7) (.block 0 (.loop b_rotalaw08_ClockNear_11))) (.seq (.ops o_rotalaw08_ClockNear_12) (.seq (.seq (.ops o_rotalaw08_ClockNear_13) (.cond (.t 47) (.seq (.ops o_rotalaw08_ClockNear_14) .ret) .skip)) (.seq (.seq (.ops o_rotalaw08_ClockNear_15) (.block 2 (.loop b_rotalaw08_ClockNear_33))) (.seq (.ops o_rotalaw08_ClockNear_34) .ret)))))))))))
def i_rotalaw08_ClockNear : IFn := ⟨126, c_rotalaw08_ClockNear, [(8, none)]⟩

-- F 5 rota/rotalaw08.ClockPlays: bads 0, calls [10, 21, 22, 14, 14]
abbrev o_rotalaw08_ClockPlays_0 : List IOper := [⟨(some 2), .box 28 (.t 0), none⟩,
  ⟨(some 4), .mv (.k (.c (.bool false))), none⟩]
abbrev o_rotalaw08_ClockPlays_1 : List IOper := [⟨(some 11), .mv (.t 1), none⟩,
  ⟨(some 12), .len false (.t 11), none⟩,
  ⟨(some 13), .bin .gtr (.t 12) (.k (.c (.int .i64 1000))), none⟩]
abbrev o_rotalaw08_ClockPlays_2 : List IOper := [⟨(some 4), .mv (.k (.c (.bool true))), none⟩]
abbrev o_rotalaw08_ClockPlays_3 : List IOper := [⟨(some 15), .ld (some 12) (.t 2), none⟩,
  ⟨(some 16), .call (.k (.c (.fn fn_clock_New [] []))) [(.t 15)], none⟩,
  ⟨(some 14), .mv (.t 16), none⟩,
  ⟨(some 17), .ext (.t 14) 0, none⟩,
  ⟨(some 18), .ext (.t 14) 1, none⟩,
  ⟨(some 5), .mv (.t 17), none⟩,
  ⟨(some 6), .mv (.t 18), none⟩]
abbrev o_rotalaw08_ClockPlays_4 : List IOper := [⟨(some 20), .ld (some 12) (.t 2), none⟩,
  ⟨(some 21), .call (.k (.c (.fn fn_rotaref08_New [] []))) [(.t 20)], none⟩,
  ⟨(some 19), .mv (.t 21), none⟩,
  ⟨(some 22), .ext (.t 19) 0, none⟩,
  ⟨(some 23), .ext (.t 19) 1, none⟩,
  ⟨(some 7), .new 54 (.agg ([(.int .i64 0)] ++ [(.sl none 0 0 false)] ++ List.replicate 6 (.int .i64 0) ++ List.replicate 4 (.sl none 0 0 false) ++ [(.int .i64 0)] ++ List.replicate 2 (.sl none 0 0 false))), none⟩,
  ⟨none, .st 15 (.t 7) (.t 22), none⟩,
  ⟨(some 8), .mv (.t 23), none⟩]
abbrev o_rotalaw08_ClockPlays_5 : List IOper := [⟨(some 24), .mv (.t 6), none⟩,
  ⟨(some 25), .bin .neq (.t 24) (.k (.c (.int .i64 0))), none⟩,
  ⟨(some 26), .mv (.t 25), none⟩,
  ⟨(some 27), .mv (.t 8), some (26, false)⟩,
  ⟨(some 28), .bin .neq (.t 27) (.k (.c (.int .i64 0))), some (26, false)⟩,
  ⟨(some 29), .pick (.t 26) (.k (.c (.bool true))) (.t 28), none⟩]
abbrev o_rotalaw08_ClockPlays_6 : List IOper := [⟨(some 30), .mv (.t 6), none⟩,
  ⟨(some 31), .mv (.t 8), none⟩,
  ⟨(some 32), .bin .eql (.t 30) (.t 31), none⟩,
  ⟨(some 33), .mv (.t 32), none⟩,
  ⟨(some 34), .mv (.t 5), some (33, true)⟩,
  ⟨(some 35), .eq .ptr false (.t 34) (.k (.c (.ptr none))), some (33, true)⟩,
  ⟨(some 36), .pick (.t 33) (.t 35) (.k (.c (.bool false))), none⟩,
  ⟨(some 4), .mv (.t 36), none⟩]
abbrev o_rotalaw08_ClockPlays_7 : List IOper := [⟨(some 9), .mv (.k (.c (.int .i64 0))), none⟩]
abbrev o_rotalaw08_ClockPlays_8 : List IOper := [⟨(some 37), .mv (.t 9), none⟩,
  ⟨(some 38), .mv (.t 1), none⟩,
  ⟨(some 39), .len false (.t 38), none⟩,
  ⟨(some 40), .bin .lss (.t 37) (.t 39), none⟩]
abbrev o_rotalaw08_ClockPlays_9 : List IOper := [⟨(some 43), .mv (.t 5), none⟩,
  ⟨(some 44), .mv (.t 1), none⟩,
  ⟨(some 45), .mv (.t 9), none⟩,
  ⟨(some 46), .iaS 4 (.t 44) (.t 45), none⟩,
  ⟨(some 47), .ld (some 4) (.t 46), none⟩,
  ⟨(some 48), .call (.k (.c (.fn fn_rotalaw08_step [] []))) [(.t 43), (.t 7), (.t 47)], none⟩,
  ⟨(some 10), .mv (.t 48), none⟩]
abbrev o_rotalaw08_ClockPlays_10 : List IOper := [⟨(some 49), .mv (.t 10), none⟩,
  ⟨(some 50), .un .not (.t 49), none⟩,
  ⟨(some 51), .mv (.t 50), none⟩,
  ⟨(some 54), .fa 12 (.t 7), some (51, false)⟩,
  ⟨(some 55), .ld none (.t 54), some (51, false)⟩,
  ⟨(some 52), .mv (.t 5), some (51, false)⟩,
  ⟨(some 53), .call (.k (.c (.fn fn_clock_Clock_Offset [] []))) [(.t 52)], some (51, false)⟩,
  ⟨none, .same (some none) (.t 54) (.t 55), some (51, false)⟩,
  ⟨(some 56), .bin .neq (.t 53) (.t 55), some (51, false)⟩,
  ⟨(some 57), .pick (.t 51) (.k (.c (.bool true))) (.t 56), none⟩]
abbrev o_rotalaw08_ClockPlays_11 : List IOper := [⟨(some 4), .mv (.k (.c (.bool false))), none⟩]
abbrev o_rotalaw08_ClockPlays_12 : List IOper := [⟨(some 41), .mv (.t 9), none⟩,
  ⟨(some 42), .bin .add (.t 41) (.k (.c (.int .i64 1))), none⟩,
  ⟨(some 9), .mv (.t 42), none⟩]
def b_rotalaw08_ClockPlays_13 : IC := (.seq (.seq (.ops o_rotalaw08_ClockPlays_8) (.cond (.t 40) .skip (.exit 0))) (.seq (.block 1 (.seq (.ops o_rotalaw08_ClockPlays_9) (.seq (.ops o_rotalaw08_ClockPlays_10) (.cond (.t 57) (.seq (.ops o_rotalaw08_ClockPlays_11) .ret) .skip)))) (.ops o_rotalaw08_ClockPlays_12)))
abbrev o_rotalaw08_ClockPlays_14 : List IOper := [⟨(some 60), .fa 12 (.t 7), none⟩,
  ⟨(some 61), .ld none (.t 60), none⟩,
  ⟨(some 58), .mv (.t 5), none⟩,
  ⟨(some 59), .call (.k (.c (.fn fn_clock_Clock_Offset [] []))) [(.t 58)], none⟩,
  ⟨none, .same (some none) (.t 60) (.t 61), none⟩,
  ⟨(some 62), .bin .eql (.t 59) (.t 61), none⟩,
  ⟨(some 4), .mv (.t 62), none⟩]
def c_rotalaw08_ClockPlays : IC := (.seq (.ops o_rotalaw08_ClockPlays_0) (.seq (.seq (.ops o_rotalaw08_ClockPlays_1) (.cond (.t 13) (.seq (.ops o_rotalaw08_ClockPlays_2) .ret) .skip)) (.seq (.ops o_rotalaw08_ClockPlays_3) (.seq (.ops o_rotalaw08_ClockPlays_4) (.seq (.seq (.ops o_rotalaw08_ClockPlays_5) (.cond (.t 29) (.seq (.ops o_rotalaw08_ClockPlays_6) .ret) .skip)) (.seq (.seq (.ops o_rotalaw08_ClockPlays_7) (.block 0 (.loop b_rotalaw08_ClockPlays_13))) (.seq (.ops o_rotalaw08_ClockPlays_14) .ret)))))))
def i_rotalaw08_ClockPlays : IFn := ⟨63, c_rotalaw08_ClockPlays, [(4, none)]⟩

-- F 6 rota/rotalaw08.ClockNames: bads 0, calls [23, 10, 15, 15, 18, 18, 18, 18, 19, 14, 18, 20, 20, 11, 15, 15, 15, 15, 19, 14, 17, 17, 17, 13, 10, 20, 11, 15, 19, 18, 7, 17, 13, 14]
abbrev o_rotalaw08_ClockNames_0 : List IOper := [⟨(some 0), .mv (.k (.c (.bool false))), none⟩]
abbrev o_rotalaw08_ClockNames_1 : List IOper := [⟨(some 31), .call (.k (.c (.fn fn_rotalaw07_Four [] []))) [], none⟩,
  ⟨(some 32), .call (.k (.c (.fn fn_clock_New [] []))) [(.t 31)], none⟩,
  ⟨(some 30), .mv (.t 32), none⟩,
  ⟨(some 33), .ext (.t 30) 0, none⟩,
  ⟨(some 34), .ext (.t 30) 1, none⟩,
  ⟨(some 1), .mv (.t 33), none⟩,
  ⟨(some 2), .mv (.t 34), none⟩]
abbrev o_rotalaw08_ClockNames_2 : List IOper := [⟨(some 35), .mv (.t 1), none⟩,
  ⟨(some 36), .call (.k (.c (.fn fn_clock_Clock_Hear [] []))) [(.t 35), (.k (.c (.int .i64 0))), (.k (.c (.int .i64 (-3))))], none⟩]
abbrev o_rotalaw08_ClockNames_3 : List IOper := [⟨(some 37), .mv (.t 1), none⟩,
  ⟨(some 38), .call (.k (.c (.fn fn_clock_Clock_Hear [] []))) [(.t 37), (.k (.c (.int .i64 1))), (.k (.c (.int .i64 5)))], none⟩]
abbrev o_rotalaw08_ClockNames_4 : List IOper := [⟨(some 40), .mv (.t 1), none⟩,
  ⟨(some 41), .call (.k (.c (.fn fn_clock_Clock_Average [] []))) [(.t 40), (.k (.c (.int .u16 3))), (.k (.c (.int .i64 3)))], none⟩,
  ⟨(some 39), .mv (.t 41), none⟩,
  ⟨(some 42), .ext (.t 39) 0, none⟩,
  ⟨(some 43), .ext (.t 39) 1, none⟩,
  ⟨(some 3), .mv (.t 42), none⟩,
  ⟨(some 4), .mv (.t 43), none⟩]
abbrev o_rotalaw08_ClockNames_5 : List IOper := [⟨(some 45), .mv (.t 1), none⟩,
  ⟨(some 46), .call (.k (.c (.fn fn_clock_Clock_Average [] []))) [(.t 45), (.k (.c (.int .u16 0))), (.k (.c (.int .i64 0)))], none⟩,
  ⟨(some 44), .mv (.t 46), none⟩,
  ⟨(some 47), .ext (.t 44) 0, none⟩,
  ⟨(some 48), .ext (.t 44) 1, none⟩,
  ⟨(some 5), .mv (.t 47), none⟩,
  ⟨(some 6), .mv (.t 48), none⟩]
abbrev o_rotalaw08_ClockNames_6 : List IOper := [⟨(some 50), .mv (.t 1), none⟩,
  ⟨(some 51), .call (.k (.c (.fn fn_clock_Clock_Average [] []))) [(.t 50), (.k (.c (.int .u16 8))), (.k (.c (.int .i64 3)))], none⟩,
  ⟨(some 49), .mv (.t 51), none⟩,
  ⟨(some 52), .ext (.t 49) 0, none⟩,
  ⟨(some 53), .ext (.t 49) 1, none⟩,
  ⟨(some 7), .mv (.t 52), none⟩,
  ⟨(some 8), .mv (.t 53), none⟩]
abbrev o_rotalaw08_ClockNames_7 : List IOper := [⟨(some 55), .mv (.t 1), none⟩,
  ⟨(some 56), .call (.k (.c (.fn fn_clock_Clock_Average [] []))) [(.t 55), (.k (.c (.int .u16 1))), (.k (.c (.int .i64 2)))], none⟩,
  ⟨(some 54), .mv (.t 56), none⟩,
  ⟨(some 57), .ext (.t 54) 0, none⟩,
  ⟨(some 58), .ext (.t 54) 1, none⟩,
  ⟨(some 9), .mv (.t 57), none⟩,
  ⟨(some 10), .mv (.t 58), none⟩]
abbrev o_rotalaw08_ClockNames_8 : List IOper := [⟨(some 60), .mv (.t 1), none⟩,
  ⟨(some 61), .call (.k (.c (.fn fn_clock_Clock_Round [] []))) [(.t 60), (.k (.c (.int .u16 3))), (.k (.c (.int .i64 3)))], none⟩,
  ⟨(some 59), .mv (.t 61), none⟩,
  ⟨(some 62), .ext (.t 59) 0, none⟩,
  ⟨(some 63), .ext (.t 59) 1, none⟩,
  ⟨(some 11), .mv (.t 62), none⟩,
  ⟨(some 12), .mv (.t 63), none⟩]
abbrev o_rotalaw08_ClockNames_9 : List IOper := [⟨(some 64), .mv (.t 3), none⟩,
  ⟨(some 65), .bin .eql (.t 64) (.k (.c (.int .i64 1))), none⟩,
  ⟨(some 66), .mv (.t 65), none⟩,
  ⟨(some 67), .mv (.t 4), some (66, true)⟩,
  ⟨(some 68), .pick (.t 66) (.t 67) (.k (.c (.bool false))), none⟩,
  ⟨(some 69), .mv (.t 68), none⟩,
  ⟨(some 70), .mv (.t 5), some (69, true)⟩,
  ⟨(some 71), .bin .eql (.t 70) (.k (.c (.int .i64 0))), some (69, true)⟩,
  ⟨(some 72), .pick (.t 69) (.t 71) (.k (.c (.bool false))), none⟩,
  ⟨(some 73), .mv (.t 72), none⟩,
  ⟨(some 74), .mv (.t 6), some (73, true)⟩,
  ⟨(some 75), .un .not (.t 74), some (73, true)⟩,
  ⟨(some 76), .pick (.t 73) (.t 75) (.k (.c (.bool false))), none⟩,
  ⟨(some 77), .mv (.t 76), none⟩,
  ⟨(some 78), .mv (.t 7), some (77, true)⟩,
  ⟨(some 79), .bin .eql (.t 78) (.k (.c (.int .i64 0))), some (77, true)⟩,
  ⟨(some 80), .pick (.t 77) (.t 79) (.k (.c (.bool false))), none⟩,
  ⟨(some 81), .mv (.t 80), none⟩,
  ⟨(some 82), .mv (.t 8), some (81, true)⟩,
  ⟨(some 83), .pick (.t 81) (.t 82) (.k (.c (.bool false))), none⟩,
  ⟨(some 84), .mv (.t 83), none⟩,
  ⟨(some 85), .mv (.t 9), some (84, true)⟩,
  ⟨(some 86), .bin .eql (.t 85) (.k (.c (.int .i64 (-3)))), some (84, true)⟩,
  ⟨(some 87), .pick (.t 84) (.t 86) (.k (.c (.bool false))), none⟩,
  ⟨(some 88), .mv (.t 87), none⟩,
  ⟨(some 89), .mv (.t 10), some (88, true)⟩,
  ⟨(some 90), .pick (.t 88) (.t 89) (.k (.c (.bool false))), none⟩,
  ⟨(some 91), .mv (.t 90), none⟩,
  ⟨(some 92), .mv (.t 11), some (91, true)⟩,
  ⟨(some 93), .bin .eql (.t 92) (.k (.c (.int .i64 1))), some (91, true)⟩,
  ⟨(some 94), .pick (.t 91) (.t 93) (.k (.c (.bool false))), none⟩,
  ⟨(some 95), .mv (.t 94), none⟩,
  ⟨(some 96), .mv (.t 12), some (95, true)⟩,
  ⟨(some 97), .bin .eql (.t 96) (.k (.c (.int .i64 0))), some (95, true)⟩,
  ⟨(some 98), .pick (.t 95) (.t 97) (.k (.c (.bool false))), none⟩,
  ⟨(some 99), .mv (.t 98), none⟩,
  ⟨(some 100), .mv (.t 1), some (99, true)⟩,
  ⟨(some 101), .call (.k (.c (.fn fn_clock_Clock_Offset [] []))) [(.t 100)], some (99, true)⟩,
  ⟨(some 102), .bin .eql (.t 101) (.k (.c (.int .i64 1))), some (99, true)⟩,
  ⟨(some 103), .pick (.t 99) (.t 102) (.k (.c (.bool false))), none⟩,
  ⟨(some 13), .mv (.t 103), none⟩]
abbrev o_rotalaw08_ClockNames_10 : List IOper := [⟨(some 105), .mv (.t 1), none⟩,
  ⟨(some 106), .call (.k (.c (.fn fn_clock_Clock_Average [] []))) [(.t 105), (.k (.c (.int .u16 3))), (.k (.c (.int .i64 3)))], none⟩,
  ⟨(some 104), .mv (.t 106), none⟩,
  ⟨(some 107), .ext (.t 104) 0, none⟩,
  ⟨(some 108), .ext (.t 104) 1, none⟩,
  ⟨(some 4), .mv (.t 108), none⟩]
abbrev o_rotalaw08_ClockNames_11 : List IOper := [⟨(some 109), .mv (.t 1), none⟩,
  ⟨(some 110), .call (.k (.c (.fn fn_clock_Clock_Set [] []))) [(.t 109), (.k (.c (.int .i64 1099511627777)))], none⟩,
  ⟨(some 14), .mv (.t 110), none⟩]
abbrev o_rotalaw08_ClockNames_12 : List IOper := [⟨(some 111), .mv (.t 1), none⟩,
  ⟨(some 112), .call (.k (.c (.fn fn_clock_Clock_Set [] []))) [(.t 111), (.k (.c (.int .i64 1099511627776)))], none⟩,
  ⟨(some 15), .mv (.t 112), none⟩]
abbrev o_rotalaw08_ClockNames_13 : List IOper := [⟨(some 113), .mv (.t 1), none⟩,
  ⟨(some 114), .call (.k (.c (.fn fn_clock_Clock_Drift [] []))) [(.t 113), (.k (.c (.int .i64 1)))], none⟩]
abbrev o_rotalaw08_ClockNames_14 : List IOper := [⟨(some 115), .mv (.t 1), none⟩,
  ⟨(some 116), .call (.k (.c (.fn fn_clock_Clock_Hear [] []))) [(.t 115), (.k (.c (.int .i64 4))), (.k (.c (.int .i64 0)))], none⟩,
  ⟨(some 16), .mv (.t 116), none⟩]
abbrev o_rotalaw08_ClockNames_15 : List IOper := [⟨(some 117), .mv (.t 1), none⟩,
  ⟨(some 118), .call (.k (.c (.fn fn_clock_Clock_Hear [] []))) [(.t 117), (.k (.c (.int .i64 (-1)))), (.k (.c (.int .i64 0)))], none⟩,
  ⟨(some 17), .mv (.t 118), none⟩]
abbrev o_rotalaw08_ClockNames_16 : List IOper := [⟨(some 119), .mv (.t 1), none⟩,
  ⟨(some 120), .call (.k (.c (.fn fn_clock_Clock_Hear [] []))) [(.t 119), (.k (.c (.int .i64 0))), (.k (.c (.int .i64 2199023255553)))], none⟩,
  ⟨(some 18), .mv (.t 120), none⟩]
abbrev o_rotalaw08_ClockNames_17 : List IOper := [⟨(some 121), .mv (.t 1), none⟩,
  ⟨(some 122), .call (.k (.c (.fn fn_clock_Clock_Hear [] []))) [(.t 121), (.k (.c (.int .i64 0))), (.k (.c (.int .i64 2199023255552)))], none⟩]
abbrev o_rotalaw08_ClockNames_18 : List IOper := [⟨(some 124), .mv (.t 1), none⟩,
  ⟨(some 125), .call (.k (.c (.fn fn_clock_Clock_Round [] []))) [(.t 124), (.k (.c (.int .u16 1))), (.k (.c (.int .i64 1)))], none⟩,
  ⟨(some 123), .mv (.t 125), none⟩,
  ⟨(some 126), .ext (.t 123) 0, none⟩,
  ⟨(some 127), .ext (.t 123) 1, none⟩,
  ⟨(some 19), .mv (.t 126), none⟩,
  ⟨(some 20), .mv (.t 127), none⟩]
abbrev o_rotalaw08_ClockNames_19 : List IOper := [⟨(some 128), .mv (.t 4), none⟩,
  ⟨(some 129), .un .not (.t 128), none⟩,
  ⟨(some 130), .mv (.t 129), none⟩,
  ⟨(some 131), .mv (.t 14), some (130, true)⟩,
  ⟨(some 132), .bin .eql (.t 131) (.k (.c (.int .i64 2))), some (130, true)⟩,
  ⟨(some 133), .pick (.t 130) (.t 132) (.k (.c (.bool false))), none⟩,
  ⟨(some 134), .mv (.t 133), none⟩,
  ⟨(some 135), .mv (.t 15), some (134, true)⟩,
  ⟨(some 136), .bin .eql (.t 135) (.k (.c (.int .i64 0))), some (134, true)⟩,
  ⟨(some 137), .pick (.t 134) (.t 136) (.k (.c (.bool false))), none⟩,
  ⟨(some 138), .mv (.t 137), none⟩,
  ⟨(some 139), .mv (.t 16), some (138, true)⟩,
  ⟨(some 140), .bin .eql (.t 139) (.k (.c (.int .i64 2))), some (138, true)⟩,
  ⟨(some 141), .pick (.t 138) (.t 140) (.k (.c (.bool false))), none⟩,
  ⟨(some 142), .mv (.t 141), none⟩,
  ⟨(some 143), .mv (.t 17), some (142, true)⟩,
  ⟨(some 144), .bin .eql (.t 143) (.k (.c (.int .i64 2))), some (142, true)⟩,
  ⟨(some 145), .pick (.t 142) (.t 144) (.k (.c (.bool false))), none⟩,
  ⟨(some 146), .mv (.t 145), none⟩,
  ⟨(some 147), .mv (.t 18), some (146, true)⟩,
  ⟨(some 148), .bin .eql (.t 147) (.k (.c (.int .i64 2))), some (146, true)⟩,
  ⟨(some 149), .pick (.t 146) (.t 148) (.k (.c (.bool false))), none⟩,
  ⟨(some 150), .mv (.t 149), none⟩,
  ⟨(some 151), .mv (.t 19), some (150, true)⟩,
  ⟨(some 152), .bin .eql (.t 151) (.k (.c (.int .i64 20))), some (150, true)⟩,
  ⟨(some 153), .pick (.t 150) (.t 152) (.k (.c (.bool false))), none⟩,
  ⟨(some 154), .mv (.t 153), none⟩,
  ⟨(some 155), .mv (.t 1), some (154, true)⟩,
  ⟨(some 156), .call (.k (.c (.fn fn_clock_Clock_Offset [] []))) [(.t 155)], some (154, true)⟩,
  ⟨(some 157), .bin .eql (.t 156) (.k (.c (.int .i64 1099511627776))), some (154, true)⟩,
  ⟨(some 158), .pick (.t 154) (.t 157) (.k (.c (.bool false))), none⟩,
  ⟨(some 159), .mv (.t 158), none⟩,
  ⟨(some 160), .mv (.t 1), some (159, true)⟩,
  ⟨(some 161), .call (.k (.c (.fn fn_clock_Clock_Fits [] []))) [(.t 160), (.k (.c (.int .i64 20)))], some (159, true)⟩,
  ⟨(some 162), .pick (.t 159) (.t 161) (.k (.c (.bool false))), none⟩,
  ⟨(some 163), .mv (.t 162), none⟩,
  ⟨(some 164), .mv (.t 1), some (163, true)⟩,
  ⟨(some 165), .call (.k (.c (.fn fn_clock_Clock_Fits [] []))) [(.t 164), (.k (.c (.int .i64 (-20))))], some (163, true)⟩,
  ⟨(some 166), .pick (.t 163) (.t 165) (.k (.c (.bool false))), none⟩,
  ⟨(some 167), .mv (.t 166), none⟩,
  ⟨(some 168), .mv (.t 1), some (167, true)⟩,
  ⟨(some 169), .call (.k (.c (.fn fn_clock_Clock_Fits [] []))) [(.t 168), (.k (.c (.int .i64 21)))], some (167, true)⟩,
  ⟨(some 170), .un .not (.t 169), some (167, true)⟩,
  ⟨(some 171), .pick (.t 167) (.t 170) (.k (.c (.bool false))), none⟩,
  ⟨(some 172), .mv (.t 171), none⟩,
  ⟨(some 173), .mv (.t 1), some (172, true)⟩,
  ⟨(some 174), .call (.k (.c (.fn fn_clock_Clock_Read [] []))) [(.t 173), (.k (.c (.int .i64 1152921504606846976))), (.k (.c (.int .i64 0)))], some (172, true)⟩,
  ⟨(some 175), .bin .eql (.t 174) (.k (.c (.int .i64 0))), some (172, true)⟩,
  ⟨(some 176), .pick (.t 172) (.t 175) (.k (.c (.bool false))), none⟩,
  ⟨(some 21), .mv (.t 176), none⟩]
abbrev o_rotalaw08_ClockNames_20 : List IOper := [⟨(some 178), .build ([(.int .i64 0)] ++ [(.sl none 0 0 false)] ++ List.replicate 6 (.int .i64 0) ++ List.replicate 4 (.sl none 0 0 false)) [], none⟩,
  ⟨(some 179), .call (.k (.c (.fn fn_clock_New [] []))) [(.t 178)], none⟩,
  ⟨(some 177), .mv (.t 179), none⟩,
  ⟨(some 180), .ext (.t 177) 0, none⟩,
  ⟨(some 181), .ext (.t 177) 1, none⟩,
  ⟨(some 22), .mv (.t 180), none⟩,
  ⟨(some 23), .mv (.t 181), none⟩]
abbrev o_rotalaw08_ClockNames_21 : List IOper := [⟨(some 24), .mv (.k (.c (.ptr none))), none⟩]
abbrev o_rotalaw08_ClockNames_22 : List IOper := [⟨(some 182), .mv (.t 24), none⟩,
  ⟨(some 183), .call (.k (.c (.fn fn_clock_Clock_Set [] []))) [(.t 182), (.k (.c (.int .i64 0)))], none⟩,
  ⟨(some 25), .mv (.t 183), none⟩]
abbrev o_rotalaw08_ClockNames_23 : List IOper := [⟨(some 184), .mv (.t 24), none⟩,
  ⟨(some 185), .call (.k (.c (.fn fn_clock_Clock_Drift [] []))) [(.t 184), (.k (.c (.int .i64 0)))], none⟩,
  ⟨(some 26), .mv (.t 185), none⟩]
abbrev o_rotalaw08_ClockNames_24 : List IOper := [⟨(some 186), .mv (.t 24), none⟩,
  ⟨(some 187), .call (.k (.c (.fn fn_clock_Clock_Hear [] []))) [(.t 186), (.k (.c (.int .i64 0))), (.k (.c (.int .i64 0)))], none⟩,
  ⟨(some 27), .mv (.t 187), none⟩]
abbrev o_rotalaw08_ClockNames_25 : List IOper := [⟨(some 189), .mv (.t 24), none⟩,
  ⟨(some 190), .call (.k (.c (.fn fn_clock_Clock_Round [] []))) [(.t 189), (.k (.c (.int .u16 0))), (.k (.c (.int .i64 0)))], none⟩,
  ⟨(some 188), .mv (.t 190), none⟩,
  ⟨(some 191), .ext (.t 188) 0, none⟩,
  ⟨(some 192), .ext (.t 188) 1, none⟩,
  ⟨(some 28), .mv (.t 191), none⟩,
  ⟨(some 29), .mv (.t 192), none⟩]
abbrev o_rotalaw08_ClockNames_26 : List IOper := [⟨(some 194), .mv (.t 24), none⟩,
  ⟨(some 195), .call (.k (.c (.fn fn_clock_Clock_Average [] []))) [(.t 194), (.k (.c (.int .u16 1))), (.k (.c (.int .i64 0)))], none⟩,
  ⟨(some 193), .mv (.t 195), none⟩,
  ⟨(some 196), .ext (.t 193) 0, none⟩,
  ⟨(some 197), .ext (.t 193) 1, none⟩,
  ⟨(some 4), .mv (.t 197), none⟩]
abbrev o_rotalaw08_ClockNames_27 : List IOper := [⟨(some 198), .call (.k (.c (.fn fn_rotalaw08_alive [] []))) [], none⟩,
  ⟨(some 199), .mv (.t 198), none⟩,
  ⟨(some 200), .mv (.t 13), some (199, true)⟩,
  ⟨(some 201), .pick (.t 199) (.t 200) (.k (.c (.bool false))), none⟩,
  ⟨(some 202), .mv (.t 201), none⟩,
  ⟨(some 203), .mv (.t 21), some (202, true)⟩,
  ⟨(some 204), .pick (.t 202) (.t 203) (.k (.c (.bool false))), none⟩,
  ⟨(some 205), .mv (.t 204), none⟩,
  ⟨(some 206), .mv (.t 23), some (205, true)⟩,
  ⟨(some 207), .bin .eql (.t 206) (.k (.c (.int .i64 21))), some (205, true)⟩,
  ⟨(some 208), .pick (.t 205) (.t 207) (.k (.c (.bool false))), none⟩,
  ⟨(some 209), .mv (.t 208), none⟩,
  ⟨(some 210), .mv (.t 25), some (209, true)⟩,
  ⟨(some 211), .bin .eql (.t 210) (.k (.c (.int .i64 1))), some (209, true)⟩,
  ⟨(some 212), .pick (.t 209) (.t 211) (.k (.c (.bool false))), none⟩,
  ⟨(some 213), .mv (.t 212), none⟩,
  ⟨(some 214), .mv (.t 26), some (213, true)⟩,
  ⟨(some 215), .bin .eql (.t 214) (.k (.c (.int .i64 1))), some (213, true)⟩,
  ⟨(some 216), .pick (.t 213) (.t 215) (.k (.c (.bool false))), none⟩,
  ⟨(some 217), .mv (.t 216), none⟩,
  ⟨(some 218), .mv (.t 27), some (217, true)⟩,
  ⟨(some 219), .bin .eql (.t 218) (.k (.c (.int .i64 1))), some (217, true)⟩,
  ⟨(some 220), .pick (.t 217) (.t 219) (.k (.c (.bool false))), none⟩,
  ⟨(some 221), .mv (.t 220), none⟩,
  ⟨(some 222), .mv (.t 29), some (221, true)⟩,
  ⟨(some 223), .bin .eql (.t 222) (.k (.c (.int .i64 1))), some (221, true)⟩,
  ⟨(some 224), .pick (.t 221) (.t 223) (.k (.c (.bool false))), none⟩,
  ⟨(some 225), .mv (.t 224), none⟩,
  ⟨(some 226), .mv (.t 4), some (225, true)⟩,
  ⟨(some 227), .un .not (.t 226), some (225, true)⟩,
  ⟨(some 228), .pick (.t 225) (.t 227) (.k (.c (.bool false))), none⟩,
  ⟨(some 229), .mv (.t 228), none⟩,
  ⟨(some 230), .mv (.t 24), some (229, true)⟩,
  ⟨(some 231), .call (.k (.c (.fn fn_clock_Clock_Fits [] []))) [(.t 230), (.k (.c (.int .i64 0)))], some (229, true)⟩,
  ⟨(some 232), .un .not (.t 231), some (229, true)⟩,
  ⟨(some 233), .pick (.t 229) (.t 232) (.k (.c (.bool false))), none⟩,
  ⟨(some 234), .mv (.t 233), none⟩,
  ⟨(some 235), .mv (.t 24), some (234, true)⟩,
  ⟨(some 236), .call (.k (.c (.fn fn_clock_Clock_Read [] []))) [(.t 235), (.k (.c (.int .i64 1))), (.k (.c (.int .i64 1)))], some (234, true)⟩,
  ⟨(some 237), .bin .eql (.t 236) (.k (.c (.int .i64 0))), some (234, true)⟩,
  ⟨(some 238), .pick (.t 234) (.t 237) (.k (.c (.bool false))), none⟩,
  ⟨(some 239), .mv (.t 238), none⟩,
  ⟨(some 240), .mv (.t 24), some (239, true)⟩,
  ⟨(some 241), .call (.k (.c (.fn fn_clock_Clock_Offset [] []))) [(.t 240)], some (239, true)⟩,
  ⟨(some 242), .bin .eql (.t 241) (.k (.c (.int .i64 0))), some (239, true)⟩,
  ⟨(some 243), .pick (.t 239) (.t 242) (.k (.c (.bool false))), none⟩,
  ⟨(some 0), .mv (.t 243), none⟩]
def c_rotalaw08_ClockNames : IC := (.seq (.ops o_rotalaw08_ClockNames_0) (.seq (.ops o_rotalaw08_ClockNames_1) (.seq (.ops o_rotalaw08_ClockNames_2) (.seq (.ops o_rotalaw08_ClockNames_3) (.seq (.ops o_rotalaw08_ClockNames_4) (.seq (.ops o_rotalaw08_ClockNames_5) (.seq (.ops o_rotalaw08_ClockNames_6) (.seq (.ops o_rotalaw08_ClockNames_7) (.seq (.ops o_rotalaw08_ClockNames_8) (.seq (.ops o_rotalaw08_ClockNames_9) (.seq (.ops o_rotalaw08_ClockNames_10) (.seq (.ops o_rotalaw08_ClockNames_11) (.seq (.ops o_rotalaw08_ClockNames_12) (.seq (.ops o_rotalaw08_ClockNames_13) (.seq (.ops o_rotalaw08_ClockNames_14) (.seq (.ops o_rotalaw08_ClockNames_15) (.seq (.ops o_rotalaw08_ClockNames_16) (.seq (.ops o_rotalaw08_ClockNames_17) (.seq (.ops o_rotalaw08_ClockNames_18) (.seq (.ops o_rotalaw08_ClockNames_19) (.seq (.ops o_rotalaw08_ClockNames_20) (.seq (.ops o_rotalaw08_ClockNames_21) (.seq (.ops o_rotalaw08_ClockNames_22) (.seq (.ops o_rotalaw08_ClockNames_23) (.seq (.ops o_rotalaw08_ClockNames_24) (.seq (.ops o_rotalaw08_ClockNames_25) (.seq (.ops o_rotalaw08_ClockNames_26) (.seq (.ops o_rotalaw08_ClockNames_27) .ret))))))))))))))))))))))))))))
def i_rotalaw08_ClockNames : IFn := ⟨244, c_rotalaw08_ClockNames, [(0, none)]⟩

-- F 7 rota/rotalaw08.alive: bads 0, calls [23, 10, 11, 13, 15, 15, 15, 15, 18, 14]
abbrev o_rotalaw08_alive_0 : List IOper := [⟨(some 0), .mv (.k (.c (.bool false))), none⟩]
abbrev o_rotalaw08_alive_1 : List IOper := [⟨(some 8), .call (.k (.c (.fn fn_rotalaw07_Four [] []))) [], none⟩,
  ⟨(some 9), .call (.k (.c (.fn fn_clock_New [] []))) [(.t 8)], none⟩,
  ⟨(some 7), .mv (.t 9), none⟩,
  ⟨(some 10), .ext (.t 7) 0, none⟩,
  ⟨(some 11), .ext (.t 7) 1, none⟩,
  ⟨(some 1), .mv (.t 10), none⟩,
  ⟨(some 2), .mv (.t 11), none⟩]
abbrev o_rotalaw08_alive_2 : List IOper := [⟨(some 12), .mv (.t 1), none⟩,
  ⟨(some 13), .call (.k (.c (.fn fn_clock_Clock_Drift [] []))) [(.t 12), (.k (.c (.int .i64 5)))], none⟩,
  ⟨(some 3), .mv (.t 13), none⟩]
abbrev o_rotalaw08_alive_3 : List IOper := [⟨(some 14), .mv (.t 1), none⟩,
  ⟨(some 15), .call (.k (.c (.fn fn_clock_Clock_Read [] []))) [(.t 14), (.k (.c (.int .i64 4))), (.k (.c (.int .i64 (-7))))], none⟩,
  ⟨(some 4), .mv (.t 15), none⟩]
abbrev o_rotalaw08_alive_4 : List IOper := [⟨(some 16), .mv (.t 1), none⟩,
  ⟨(some 17), .call (.k (.c (.fn fn_clock_Clock_Hear [] []))) [(.t 16), (.k (.c (.int .i64 0))), (.k (.c (.int .i64 (-3))))], none⟩]
abbrev o_rotalaw08_alive_5 : List IOper := [⟨(some 18), .mv (.t 1), none⟩,
  ⟨(some 19), .call (.k (.c (.fn fn_clock_Clock_Hear [] []))) [(.t 18), (.k (.c (.int .i64 1))), (.k (.c (.int .i64 5)))], none⟩]
abbrev o_rotalaw08_alive_6 : List IOper := [⟨(some 20), .mv (.t 1), none⟩,
  ⟨(some 21), .call (.k (.c (.fn fn_clock_Clock_Hear [] []))) [(.t 20), (.k (.c (.int .i64 2))), (.k (.c (.int .i64 2)))], none⟩]
abbrev o_rotalaw08_alive_7 : List IOper := [⟨(some 22), .mv (.t 1), none⟩,
  ⟨(some 23), .call (.k (.c (.fn fn_clock_Clock_Hear [] []))) [(.t 22), (.k (.c (.int .i64 3))), (.k (.c (.int .i64 9)))], none⟩]
abbrev o_rotalaw08_alive_8 : List IOper := [⟨(some 25), .mv (.t 1), none⟩,
  ⟨(some 26), .call (.k (.c (.fn fn_clock_Clock_Average [] []))) [(.t 25), (.k (.c (.int .u16 15))), (.k (.c (.int .i64 2)))], none⟩,
  ⟨(some 24), .mv (.t 26), none⟩,
  ⟨(some 27), .ext (.t 24) 0, none⟩,
  ⟨(some 28), .ext (.t 24) 1, none⟩,
  ⟨(some 5), .mv (.t 27), none⟩,
  ⟨(some 6), .mv (.t 28), none⟩]
abbrev o_rotalaw08_alive_9 : List IOper := [⟨(some 29), .mv (.t 2), none⟩,
  ⟨(some 30), .bin .eql (.t 29) (.k (.c (.int .i64 0))), none⟩,
  ⟨(some 31), .mv (.t 30), none⟩,
  ⟨(some 32), .mv (.t 3), some (31, true)⟩,
  ⟨(some 33), .bin .eql (.t 32) (.k (.c (.int .i64 0))), some (31, true)⟩,
  ⟨(some 34), .pick (.t 31) (.t 33) (.k (.c (.bool false))), none⟩,
  ⟨(some 35), .mv (.t 34), none⟩,
  ⟨(some 36), .mv (.t 1), some (35, true)⟩,
  ⟨(some 37), .call (.k (.c (.fn fn_clock_Clock_Offset [] []))) [(.t 36)], some (35, true)⟩,
  ⟨(some 38), .bin .eql (.t 37) (.k (.c (.int .i64 1))), some (35, true)⟩,
  ⟨(some 39), .pick (.t 35) (.t 38) (.k (.c (.bool false))), none⟩,
  ⟨(some 40), .mv (.t 39), none⟩,
  ⟨(some 41), .mv (.t 4), some (40, true)⟩,
  ⟨(some 42), .bin .eql (.t 41) (.k (.c (.int .i64 2))), some (40, true)⟩,
  ⟨(some 43), .pick (.t 40) (.t 42) (.k (.c (.bool false))), none⟩,
  ⟨(some 44), .mv (.t 43), none⟩,
  ⟨(some 45), .mv (.t 5), some (44, true)⟩,
  ⟨(some 46), .bin .eql (.t 45) (.k (.c (.int .i64 2))), some (44, true)⟩,
  ⟨(some 47), .pick (.t 44) (.t 46) (.k (.c (.bool false))), none⟩,
  ⟨(some 48), .mv (.t 47), none⟩,
  ⟨(some 49), .mv (.t 6), some (48, true)⟩,
  ⟨(some 50), .pick (.t 48) (.t 49) (.k (.c (.bool false))), none⟩,
  ⟨(some 0), .mv (.t 50), none⟩]
def c_rotalaw08_alive : IC := (.seq (.ops o_rotalaw08_alive_0) (.seq (.ops o_rotalaw08_alive_1) (.seq (.ops o_rotalaw08_alive_2) (.seq (.ops o_rotalaw08_alive_3) (.seq (.ops o_rotalaw08_alive_4) (.seq (.ops o_rotalaw08_alive_5) (.seq (.ops o_rotalaw08_alive_6) (.seq (.ops o_rotalaw08_alive_7) (.seq (.ops o_rotalaw08_alive_8) (.seq (.ops o_rotalaw08_alive_9) .ret))))))))))
def i_rotalaw08_alive : IFn := ⟨51, c_rotalaw08_alive, [(0, none)]⟩

-- F 8 rota/config.Check: bads 0, calls [24]
abbrev o_config_Check_0 : List IOper := [⟨(some 1), .box 28 (.t 0), none⟩,
  ⟨(some 2), .mv (.k (.c (.int .i64 0))), none⟩]
abbrev o_config_Check_1 : List IOper := [⟨(some 3), .mv (.k (.c (.int .i64 21))), none⟩]
abbrev o_config_Check_2 : List IOper := [⟨(some 4), .mv (.t 3), none⟩,
  ⟨(some 5), .bin .leq (.t 4) (.k (.c (.int .i64 26))), none⟩]
abbrev o_config_Check_3 : List IOper := [⟨(some 8), .mv (.t 3), none⟩,
  ⟨(some 9), .ld (some 12) (.t 1), none⟩,
  ⟨(some 10), .call (.k (.c (.fn fn_config_fine [] []))) [(.t 8), (.t 9)], none⟩,
  ⟨(some 11), .un .not (.t 10), none⟩]
abbrev o_config_Check_4 : List IOper := [⟨(some 12), .mv (.t 3), none⟩,
  ⟨(some 2), .mv (.t 12), none⟩]
abbrev o_config_Check_5 : List IOper := [⟨(some 6), .mv (.t 3), none⟩,
  ⟨(some 7), .bin .add (.t 6) (.k (.c (.int .i64 1))), none⟩,
  ⟨(some 3), .mv (.t 7), none⟩]
def b_config_Check_6 : IC := (.seq (.seq (.ops o_config_Check_2) (.cond (.t 5) .skip (.exit 0))) (.seq (.block 1 (.seq (.ops o_config_Check_3) (.cond (.t 11) (.seq (.ops o_config_Check_4) .ret) .skip))) (.ops o_config_Check_5)))
abbrev o_config_Check_7 : List IOper := [⟨(some 2), .mv (.k (.c (.int .i64 0))), none⟩]
def c_config_Check : IC := (.seq (.ops o_config_Check_0) (.seq (.seq (.ops o_config_Check_1) (.block 0 (.loop b_config_Check_6))) (.seq (.ops o_config_Check_7) .ret)))
def i_config_Check : IFn := ⟨13, c_config_Check, [(2, none)]⟩

-- F 9 rota/config.Precision: bads 0, calls []
abbrev o_config_Precision_0 : List IOper := [⟨(some 1), .box 28 (.t 0), none⟩,
  ⟨(some 2), .mv (.k (.c (.int .i64 0))), none⟩]
abbrev o_config_Precision_1 : List IOper := [⟨(some 3), .fa 2 (.t 1), none⟩,
  ⟨(some 4), .ld none (.t 3), none⟩,
  ⟨(some 5), .fa 3 (.t 1), none⟩,
  ⟨(some 6), .ld none (.t 5), none⟩,
  ⟨(some 7), .bin .add (.t 4) (.t 6), none⟩,
  ⟨(some 8), .bin .mul (.k (.c (.int .i64 2))) (.t 7), none⟩,
  ⟨(some 9), .bin .add (.t 8) (.k (.c (.int .i64 1))), none⟩,
  ⟨(some 2), .mv (.t 9), none⟩]
def c_config_Precision : IC := (.seq (.ops o_config_Precision_0) (.seq (.ops o_config_Precision_1) .ret))
def i_config_Precision : IFn := ⟨10, c_config_Precision, [(2, none)]⟩

-- F 10 rota/clock.New: bads 0, calls [8]
abbrev o_clock_New_0 : List IOper := [⟨(some 1), .box 28 (.t 0), none⟩,
  ⟨(some 2), .mv (.k (.c (.ptr none))), none⟩,
  ⟨(some 3), .mv (.k (.c (.int .i64 0))), none⟩]
abbrev o_clock_New_1 : List IOper := [⟨(some 5), .ld (some 12) (.t 1), none⟩,
  ⟨(some 6), .call (.k (.c (.fn fn_config_Check [] []))) [(.t 5)], none⟩,
  ⟨(some 4), .mv (.t 6), none⟩]
abbrev o_clock_New_2 : List IOper := [⟨(some 7), .mv (.t 4), none⟩,
  ⟨(some 8), .bin .neq (.t 7) (.k (.c (.int .i64 0))), none⟩]
abbrev o_clock_New_3 : List IOper := [⟨(some 9), .mv (.t 4), none⟩,
  ⟨(some 2), .mv (.k (.c (.ptr none))), none⟩,
  ⟨(some 3), .mv (.t 9), none⟩]
abbrev o_clock_New_4 : List IOper := [⟨(some 10), .fa 0 (.t 1), none⟩,
  ⟨(some 11), .ld none (.t 10), none⟩,
  ⟨(some 12), .fa 2 (.t 1), none⟩,
  ⟨(some 13), .ld none (.t 12), none⟩,
  ⟨(some 14), .fa 3 (.t 1), none⟩,
  ⟨(some 15), .ld none (.t 14), none⟩,
  ⟨(some 16), .fa 4 (.t 1), none⟩,
  ⟨(some 17), .ld none (.t 16), none⟩,
  ⟨(some 18), .fa 5 (.t 1), none⟩,
  ⟨(some 19), .ld none (.t 18), none⟩,
  ⟨(some 20), .build (List.replicate 6 (.int .i64 0) ++ List.replicate 16 (.bool false) ++ List.replicate 16 (.int .i64 0)) [(0, 1, (.t 11)), (1, 1, (.t 13)), (2, 1, (.t 15)), (3, 1, (.t 17)), (4, 1, (.t 19))], none⟩,
  ⟨(some 21), .box 67 (.t 20), none⟩,
  ⟨(some 2), .mv (.t 21), none⟩,
  ⟨(some 3), .mv (.k (.c (.int .i64 0))), none⟩]
def c_clock_New : IC := (.seq (.ops o_clock_New_0) (.seq (.seq (.ops o_clock_New_1) (.seq (.ops o_clock_New_2) (.cond (.t 8) (.seq (.ops o_clock_New_3) .ret) .skip))) (.seq (.ops o_clock_New_4) .ret)))
def i_clock_New : IFn := ⟨22, c_clock_New, [(2, none), (3, none)]⟩

-- F 11 (*rota/clock.Clock).Drift: bads 0, calls [25, 27, 26]
abbrev o_clock_Clock_Drift_0 : List IOper := [⟨(some 4), .mv (.k (.c (.int .i64 0))), none⟩]
abbrev o_clock_Clock_Drift_1 : List IOper := [⟨(some 5), .mv (.t 0), none⟩,
  ⟨(some 6), .call (.k (.c (.fn fn_clock_Clock_none [] []))) [(.t 5)], none⟩]
abbrev o_clock_Clock_Drift_2 : List IOper := [⟨(some 4), .mv (.k (.c (.int .i64 1))), none⟩]
abbrev o_clock_Clock_Drift_3 : List IOper := [⟨(some 7), .mv (.t 0), none⟩,
  ⟨(some 8), .mv (.t 1), none⟩,
  ⟨(some 9), .mv (.t 0), none⟩,
  ⟨(some 10), .nilck (.t 9), none⟩,
  ⟨(some 11), .fa 1 (.t 10), none⟩,
  ⟨(some 12), .ld none (.t 11), none⟩,
  ⟨(some 13), .un .neg (.t 12), none⟩,
  ⟨(some 14), .mv (.t 0), none⟩,
  ⟨(some 15), .nilck (.t 14), none⟩,
  ⟨(some 16), .fa 1 (.t 15), none⟩,
  ⟨(some 17), .ld none (.t 16), none⟩,
  ⟨(some 18), .call (.k (.c (.fn fn_clock_cut_int [] []))) [(.t 8), (.t 13), (.t 17)], none⟩,
  ⟨(some 19), .call (.k (.c (.fn fn_clock_Clock_move [] []))) [(.t 7), (.t 18)], none⟩]
abbrev o_clock_Clock_Drift_4 : List IOper := [⟨(some 4), .mv (.k (.c (.int .i64 0))), none⟩]
def c_clock_Clock_Drift : IC := (.seq (.ops o_clock_Clock_Drift_0) (.seq (.seq (.ops o_clock_Clock_Drift_1) (.cond (.t 6) (.seq (.ops o_clock_Clock_Drift_2) .ret) .skip)) (.seq (.ops o_clock_Clock_Drift_3) (.seq (.ops o_clock_Clock_Drift_4) .ret))))
def i_clock_Clock_Drift : IFn := ⟨20, c_clock_Clock_Drift, [(4, none)]⟩

-- F 12 rota/rotalaw08.at: bads 0, calls []
abbrev o_rotalaw08_at_0 : List IOper := [⟨(some 6), .mv (.k (.c (.int .i64 0))), none⟩]
abbrev o_rotalaw08_at_1 : List IOper := [⟨(some 7), .mv (.t 0), none⟩,
  ⟨(some 8), .len false (.t 7), none⟩,
  ⟨(some 9), .bin .eql (.t 8) (.k (.c (.int .i64 0))), none⟩]
abbrev o_rotalaw08_at_2 : List IOper := [⟨(some 6), .mv (.k (.c (.int .i64 0))), none⟩]
abbrev o_rotalaw08_at_3 : List IOper := [⟨(some 10), .mv (.t 0), none⟩,
  ⟨(some 11), .mv (.t 1), none⟩,
  ⟨(some 12), .mv (.t 0), none⟩,
  ⟨(some 13), .len false (.t 12), none⟩,
  ⟨(some 14), .bin .rem (.t 11) (.t 13), none⟩,
  ⟨(some 15), .iaS 1 (.t 10) (.t 14), none⟩,
  ⟨(some 16), .ld none (.t 15), none⟩,
  ⟨(some 17), .mv (.t 2), none⟩,
  ⟨(some 18), .bin .add (.t 17) (.k (.c (.int .i64 1))), none⟩,
  ⟨(some 19), .bin .rem (.t 16) (.t 18), none⟩,
  ⟨(some 6), .mv (.t 19), none⟩]
def c_rotalaw08_at : IC := (.seq (.ops o_rotalaw08_at_0) (.seq (.seq (.ops o_rotalaw08_at_1) (.cond (.t 9) (.seq (.ops o_rotalaw08_at_2) .ret) .skip)) (.seq (.ops o_rotalaw08_at_3) .ret)))
def i_rotalaw08_at : IFn := ⟨20, c_rotalaw08_at, [(6, none)]⟩

-- F 13 (*rota/clock.Clock).Read: bads 0, calls [25, 27, 27]
abbrev o_clock_Clock_Read_0 : List IOper := [⟨(some 6), .mv (.k (.c (.int .i64 0))), none⟩]
abbrev o_clock_Clock_Read_1 : List IOper := [⟨(some 7), .mv (.t 0), none⟩,
  ⟨(some 8), .call (.k (.c (.fn fn_clock_Clock_none [] []))) [(.t 7)], none⟩]
abbrev o_clock_Clock_Read_2 : List IOper := [⟨(some 6), .mv (.k (.c (.int .i64 0))), none⟩]
abbrev o_clock_Clock_Read_3 : List IOper := [⟨(some 22), .mv (.t 0), none⟩,
  ⟨(some 23), .nilck (.t 22), none⟩,
  ⟨(some 24), .fa 2 (.t 23), none⟩,
  ⟨(some 25), .ld none (.t 24), none⟩,
  ⟨(some 17), .mv (.t 0), none⟩,
  ⟨(some 18), .nilck (.t 17), none⟩,
  ⟨(some 19), .fa 2 (.t 18), none⟩,
  ⟨(some 20), .ld none (.t 19), none⟩,
  ⟨(some 21), .un .neg (.t 20), none⟩,
  ⟨(some 16), .mv (.t 2), none⟩,
  ⟨(some 11), .mv (.t 0), none⟩,
  ⟨(some 12), .nilck (.t 11), none⟩,
  ⟨(some 13), .fa 5 (.t 12), none⟩,
  ⟨(some 14), .ld none (.t 13), none⟩,
  ⟨(some 9), .mv (.t 1), none⟩,
  ⟨(some 10), .call (.k (.c (.fn fn_clock_cut_int [] []))) [(.t 9), (.k (.c (.int .i64 (-1099511627776)))), (.k (.c (.int .i64 1099511627776)))], none⟩,
  ⟨none, .same (some none) (.t 24) (.t 25), none⟩,
  ⟨none, .same (some none) (.t 19) (.t 20), none⟩,
  ⟨none, .same (some none) (.t 13) (.t 14), none⟩,
  ⟨(some 15), .bin .sub (.t 10) (.t 14), none⟩,
  ⟨(some 26), .call (.k (.c (.fn fn_clock_cut_int [] []))) [(.t 16), (.t 21), (.t 25)], none⟩,
  ⟨none, .same (some none) (.t 13) (.t 14), none⟩,
  ⟨(some 27), .bin .add (.t 15) (.t 26), none⟩,
  ⟨(some 6), .mv (.t 27), none⟩]
def c_clock_Clock_Read : IC := (.seq (.ops o_clock_Clock_Read_0) (.seq (.seq (.ops o_clock_Clock_Read_1) (.cond (.t 8) (.seq (.ops o_clock_Clock_Read_2) .ret) .skip)) (.seq (.ops o_clock_Clock_Read_3) .ret)))
def i_clock_Clock_Read : IFn := ⟨28, c_clock_Clock_Read, [(6, none)]⟩

-- F 14 (*rota/clock.Clock).Offset: bads 0, calls [25]
abbrev o_clock_Clock_Offset_0 : List IOper := [⟨(some 2), .mv (.k (.c (.int .i64 0))), none⟩]
abbrev o_clock_Clock_Offset_1 : List IOper := [⟨(some 3), .mv (.t 0), none⟩,
  ⟨(some 4), .call (.k (.c (.fn fn_clock_Clock_none [] []))) [(.t 3)], none⟩]
abbrev o_clock_Clock_Offset_2 : List IOper := [⟨(some 2), .mv (.k (.c (.int .i64 0))), none⟩]
abbrev o_clock_Clock_Offset_3 : List IOper := [⟨(some 5), .mv (.t 0), none⟩,
  ⟨(some 6), .nilck (.t 5), none⟩,
  ⟨(some 7), .fa 5 (.t 6), none⟩,
  ⟨(some 8), .ld none (.t 7), none⟩,
  ⟨(some 2), .mv (.t 8), none⟩]
def c_clock_Clock_Offset : IC := (.seq (.ops o_clock_Clock_Offset_0) (.seq (.seq (.ops o_clock_Clock_Offset_1) (.cond (.t 4) (.seq (.ops o_clock_Clock_Offset_2) .ret) .skip)) (.seq (.ops o_clock_Clock_Offset_3) .ret)))
def i_clock_Clock_Offset : IFn := ⟨9, c_clock_Clock_Offset, [(2, none)]⟩

-- F 15 (*rota/clock.Clock).Hear: bads 0, calls [25]
abbrev o_clock_Clock_Hear_0 : List IOper := [⟨(some 6), .mv (.k (.c (.int .i64 0))), none⟩]
abbrev o_clock_Clock_Hear_1 : List IOper := [⟨(some 8), .mv (.t 0), none⟩,
  ⟨(some 9), .call (.k (.c (.fn fn_clock_Clock_none [] []))) [(.t 8)], none⟩,
  ⟨(some 7), .mv (.t 9), none⟩]
abbrev o_clock_Clock_Hear_2 : List IOper := [⟨(some 6), .mv (.k (.c (.int .i64 1))), none⟩]
abbrev o_clock_Clock_Hear_3 : List IOper := [⟨(some 11), .mv (.t 1), none⟩,
  ⟨(some 12), .bin .lss (.t 11) (.k (.c (.int .i64 0))), none⟩,
  ⟨(some 13), .mv (.t 12), none⟩,
  ⟨(some 14), .mv (.t 1), some (13, false)⟩,
  ⟨(some 15), .mv (.t 0), some (13, false)⟩,
  ⟨(some 16), .nilck (.t 15), some (13, false)⟩,
  ⟨(some 17), .fa 0 (.t 16), some (13, false)⟩,
  ⟨(some 18), .ld none (.t 17), some (13, false)⟩,
  ⟨(some 19), .bin .geq (.t 14) (.t 18), some (13, false)⟩,
  ⟨(some 20), .pick (.t 13) (.k (.c (.bool true))) (.t 19), none⟩,
  ⟨(some 21), .mv (.t 20), none⟩,
  ⟨(some 22), .mv (.t 2), some (21, false)⟩,
  ⟨(some 23), .bin .lss (.t 22) (.k (.c (.int .i64 (-2199023255552)))), some (21, false)⟩,
  ⟨(some 24), .pick (.t 21) (.k (.c (.bool true))) (.t 23), none⟩,
  ⟨(some 25), .mv (.t 24), none⟩,
  ⟨(some 26), .mv (.t 2), some (25, false)⟩,
  ⟨(some 27), .bin .gtr (.t 26) (.k (.c (.int .i64 2199023255552))), some (25, false)⟩,
  ⟨(some 28), .pick (.t 25) (.k (.c (.bool true))) (.t 27), none⟩,
  ⟨(some 10), .mv (.t 28), none⟩]
abbrev o_clock_Clock_Hear_4 : List IOper := [⟨(some 6), .mv (.k (.c (.int .i64 2))), none⟩]
abbrev o_clock_Clock_Hear_5 : List IOper := [⟨(some 29), .mv (.t 0), none⟩,
  ⟨(some 30), .mv (.t 1), none⟩,
  ⟨(some 31), .mv (.t 0), none⟩,
  ⟨(some 32), .mv (.t 1), none⟩,
  ⟨(some 33), .mv (.t 2), none⟩,
  ⟨(some 34), .nilck (.t 29), none⟩,
  ⟨(some 35), .fa 6 (.t 34), none⟩,
  ⟨(some 36), .iaA 16 1 (.t 35) (.t 30), none⟩,
  ⟨none, .st 1 (.t 36) (.k (.c (.bool true))), none⟩,
  ⟨(some 37), .nilck (.t 31), none⟩,
  ⟨(some 38), .fa 22 (.t 37), none⟩,
  ⟨(some 39), .iaA 16 1 (.t 38) (.t 32), none⟩,
  ⟨none, .st 1 (.t 39) (.t 33), none⟩]
abbrev o_clock_Clock_Hear_6 : List IOper := [⟨(some 6), .mv (.k (.c (.int .i64 0))), none⟩]
def c_clock_Clock_Hear : IC := (.seq (.ops o_clock_Clock_Hear_0) (.seq (.block 0 (.seq (.ops o_clock_Clock_Hear_1) (.cond (.t 7) (.seq (.ops o_clock_Clock_Hear_2) .ret) (.seq (.ops o_clock_Clock_Hear_3) (.cond (.t 10) (.seq (.ops o_clock_Clock_Hear_4) .ret) .skip))))) (.seq (.ops o_clock_Clock_Hear_5) (.seq (.ops o_clock_Clock_Hear_6) .ret))))
def i_clock_Clock_Hear : IFn := ⟨40, c_clock_Clock_Hear, [(6, none)]⟩

-- F 16 rota/rotalaw08.far: bads 0, calls []
abbrev o_rotalaw08_far_0 : List IOper := [⟨(some 4), .mv (.k (.c (.int .i64 0))), none⟩]
abbrev o_rotalaw08_far_1 : List IOper := [⟨(some 5), .mv (.t 0), none⟩,
  ⟨(some 6), .mv (.t 1), none⟩,
  ⟨(some 7), .bin .lss (.t 5) (.t 6), none⟩]
abbrev o_rotalaw08_far_2 : List IOper := [⟨(some 8), .mv (.t 1), none⟩,
  ⟨(some 9), .mv (.t 0), none⟩,
  ⟨(some 10), .bin .sub (.t 8) (.t 9), none⟩,
  ⟨(some 4), .mv (.t 10), none⟩]
abbrev o_rotalaw08_far_3 : List IOper := [⟨(some 11), .mv (.t 0), none⟩,
  ⟨(some 12), .mv (.t 1), none⟩,
  ⟨(some 13), .bin .sub (.t 11) (.t 12), none⟩,
  ⟨(some 4), .mv (.t 13), none⟩]
def c_rotalaw08_far : IC := (.seq (.ops o_rotalaw08_far_0) (.seq (.seq (.ops o_rotalaw08_far_1) (.cond (.t 7) (.seq (.ops o_rotalaw08_far_2) .ret) .skip)) (.seq (.ops o_rotalaw08_far_3) .ret)))
def i_rotalaw08_far : IFn := ⟨14, c_rotalaw08_far, [(4, none)]⟩

-- F 17 (*rota/clock.Clock).Fits: bads 0, calls [25]
abbrev o_clock_Clock_Fits_0 : List IOper := [⟨(some 4), .mv (.k (.c (.bool false))), none⟩]
abbrev o_clock_Clock_Fits_1 : List IOper := [⟨(some 5), .mv (.t 0), none⟩,
  ⟨(some 6), .call (.k (.c (.fn fn_clock_Clock_none [] []))) [(.t 5)], none⟩,
  ⟨(some 7), .un .not (.t 6), none⟩,
  ⟨(some 8), .mv (.t 7), none⟩,
  ⟨(some 9), .mv (.t 1), some (8, true)⟩,
  ⟨(some 10), .mv (.t 0), some (8, true)⟩,
  ⟨(some 11), .nilck (.t 10), some (8, true)⟩,
  ⟨(some 12), .fa 3 (.t 11), some (8, true)⟩,
  ⟨(some 13), .ld none (.t 12), some (8, true)⟩,
  ⟨(some 14), .un .neg (.t 13), some (8, true)⟩,
  ⟨(some 15), .bin .geq (.t 9) (.t 14), some (8, true)⟩,
  ⟨(some 16), .pick (.t 8) (.t 15) (.k (.c (.bool false))), none⟩,
  ⟨(some 17), .mv (.t 16), none⟩,
  ⟨(some 18), .mv (.t 1), some (17, true)⟩,
  ⟨(some 19), .mv (.t 0), some (17, true)⟩,
  ⟨(some 20), .nilck (.t 19), some (17, true)⟩,
  ⟨(some 21), .fa 3 (.t 20), some (17, true)⟩,
  ⟨(some 22), .ld none (.t 21), some (17, true)⟩,
  ⟨(some 23), .bin .leq (.t 18) (.t 22), some (17, true)⟩,
  ⟨(some 24), .pick (.t 17) (.t 23) (.k (.c (.bool false))), none⟩,
  ⟨(some 4), .mv (.t 24), none⟩]
def c_clock_Clock_Fits : IC := (.seq (.ops o_clock_Clock_Fits_0) (.seq (.ops o_clock_Clock_Fits_1) .ret))
def i_clock_Clock_Fits : IFn := ⟨25, c_clock_Clock_Fits, [(4, none)]⟩

-- F 18 (*rota/clock.Clock).Average: bads 0, calls [25, 28, 29]
abbrev o_clock_Clock_Average_0 : List IOper := [⟨(some 6), .mv (.k (.c (.int .i64 0))), none⟩,
  ⟨(some 7), .mv (.k (.c (.bool false))), none⟩]
abbrev o_clock_Clock_Average_1 : List IOper := [⟨(some 10), .mv (.t 0), none⟩,
  ⟨(some 11), .call (.k (.c (.fn fn_clock_Clock_none [] []))) [(.t 10)], none⟩]
abbrev o_clock_Clock_Average_2 : List IOper := [⟨(some 6), .mv (.k (.c (.int .i64 0))), none⟩,
  ⟨(some 7), .mv (.k (.c (.bool false))), none⟩]
abbrev o_clock_Clock_Average_3 : List IOper := [⟨(some 8), .new 22 (.c (.sl none 0 0 false)), none⟩]
abbrev o_clock_Clock_Average_4 : List IOper := [⟨(some 12), .mv (.t 0), none⟩,
  ⟨(some 13), .mv (.t 1), none⟩,
  ⟨(some 14), .mv (.t 2), none⟩,
  ⟨(some 15), .call (.k (.c (.fn fn_clock_Clock_of [] []))) [(.t 12), (.t 13), (.t 14)], none⟩]
abbrev o_clock_Clock_Average_5 : List IOper := [⟨(some 9), .mv (.t 16), none⟩]
abbrev o_clock_Clock_Average_6 : List IOper := [⟨(some 17), .ld none (.t 8), none⟩,
  ⟨(some 18), .mv (.t 9), none⟩,
  ⟨(some 19), .bsl 3 1 [(.int .i64 0)] [(0, 1, (.t 18))], none⟩,
  ⟨(some 20), .app 3 1 8 (.t 17) (.t 19), none⟩,
  ⟨none, .st 1 (.t 8) (.t 20), none⟩]
def a_clock_Clock_Average_7 : IC := (.ops o_clock_Clock_Average_5)
def b_clock_Clock_Average_8 : IC := (.block 1 (.ops o_clock_Clock_Average_6))
abbrev o_clock_Clock_Average_9 : List IOper := [⟨(some 21), .ld none (.t 8), none⟩,
  ⟨(some 22), .call (.k (.c (.fn fn_slices_Sort_int_int [] []))) [(.t 21)], none⟩]
abbrev o_clock_Clock_Average_10 : List IOper := [⟨(some 23), .ld none (.t 8), none⟩,
  ⟨(some 24), .len false (.t 23), none⟩,
  ⟨(some 25), .bin .gtr (.t 24) (.k (.c (.int .i64 2))), none⟩]
abbrev o_clock_Clock_Average_11 : List IOper := [⟨(some 26), .ld none (.t 8), none⟩,
  ⟨(some 27), .ld none (.t 8), none⟩,
  ⟨(some 28), .len false (.t 27), none⟩,
  ⟨(some 29), .bin .sub (.t 28) (.k (.c (.int .i64 1))), none⟩,
  ⟨(some 30), .slS 1 (.t 26) (some (.k (.c (.int .i64 1)))) (some (.t 29)) none, none⟩,
  ⟨none, .st 1 (.t 8) (.t 30), none⟩]
abbrev o_clock_Clock_Average_12 : List IOper := [⟨(some 31), .ld none (.t 8), none⟩,
  ⟨(some 32), .len false (.t 31), none⟩,
  ⟨(some 33), .bin .eql (.t 32) (.k (.c (.int .i64 0))), none⟩]
abbrev o_clock_Clock_Average_13 : List IOper := [⟨(some 6), .mv (.k (.c (.int .i64 0))), none⟩,
  ⟨(some 7), .mv (.k (.c (.bool false))), none⟩]
abbrev o_clock_Clock_Average_14 : List IOper := [⟨(some 34), .ld none (.t 8), none⟩,
  ⟨(some 35), .iaS 1 (.t 34) (.k (.c (.int .i64 0))), none⟩,
  ⟨(some 36), .ld none (.t 35), none⟩,
  ⟨(some 37), .ld none (.t 8), none⟩,
  ⟨(some 38), .ld none (.t 8), none⟩,
  ⟨(some 39), .len false (.t 38), none⟩,
  ⟨(some 40), .bin .sub (.t 39) (.k (.c (.int .i64 1))), none⟩,
  ⟨(some 41), .iaS 1 (.t 37) (.t 40), none⟩,
  ⟨(some 42), .ld none (.t 41), none⟩,
  ⟨(some 43), .bin .add (.t 36) (.t 42), none⟩,
  ⟨(some 44), .bin .shr (.t 43) (.k (.c (.int .u64 1))), none⟩,
  ⟨(some 6), .mv (.t 44), none⟩,
  ⟨(some 7), .mv (.k (.c (.bool true))), none⟩]
def c_clock_Clock_Average : IC := (.seq (.ops o_clock_Clock_Average_0) (.seq (.seq (.ops o_clock_Clock_Average_1) (.cond (.t 11) (.seq (.ops o_clock_Clock_Average_2) .ret) .skip)) (.seq (.ops o_clock_Clock_Average_3) (.seq (.seq (.ops o_clock_Clock_Average_4) (.block 0 (.rangeF (.t 15) [16] a_clock_Clock_Average_7 b_clock_Clock_Average_8))) (.seq (.ops o_clock_Clock_Average_9) (.seq (.seq (.ops o_clock_Clock_Average_10) (.cond (.t 25) (.ops o_clock_Clock_Average_11) .skip)) (.seq (.seq (.ops o_clock_Clock_Average_12) (.cond (.t 33) (.seq (.ops o_clock_Clock_Average_13) .ret) .skip)) (.seq (.ops o_clock_Clock_Average_14) .ret))))))))
def i_clock_Clock_Average : IFn := ⟨45, c_clock_Clock_Average, [(6, none), (7, none)]⟩

-- F 19 (*rota/clock.Clock).Round: bads 0, calls [25, 18, 27, 26]
abbrev o_clock_Clock_Round_0 : List IOper := [⟨(some 6), .mv (.k (.c (.int .i64 0))), none⟩,
  ⟨(some 7), .mv (.k (.c (.int .i64 0))), none⟩]
abbrev o_clock_Clock_Round_1 : List IOper := [⟨(some 10), .mv (.t 0), none⟩,
  ⟨(some 11), .call (.k (.c (.fn fn_clock_Clock_none [] []))) [(.t 10)], none⟩]
abbrev o_clock_Clock_Round_2 : List IOper := [⟨(some 6), .mv (.k (.c (.int .i64 0))), none⟩,
  ⟨(some 7), .mv (.k (.c (.int .i64 1))), none⟩]
abbrev o_clock_Clock_Round_3 : List IOper := [⟨(some 13), .mv (.t 0), none⟩,
  ⟨(some 14), .mv (.t 1), none⟩,
  ⟨(some 15), .mv (.t 2), none⟩,
  ⟨(some 16), .call (.k (.c (.fn fn_clock_Clock_Average [] []))) [(.t 13), (.t 14), (.t 15)], none⟩,
  ⟨(some 12), .mv (.t 16), none⟩,
  ⟨(some 17), .ext (.t 12) 0, none⟩,
  ⟨(some 18), .ext (.t 12) 1, none⟩,
  ⟨(some 8), .mv (.t 17), none⟩,
  ⟨(some 9), .mv (.t 18), none⟩]
abbrev o_clock_Clock_Round_4 : List IOper := [⟨(some 19), .mv (.t 8), none⟩,
  ⟨(some 20), .mv (.t 0), none⟩,
  ⟨(some 21), .nilck (.t 20), none⟩,
  ⟨(some 22), .fa 4 (.t 21), none⟩,
  ⟨(some 23), .ld none (.t 22), none⟩,
  ⟨(some 24), .un .neg (.t 23), none⟩,
  ⟨(some 25), .mv (.t 0), none⟩,
  ⟨(some 26), .nilck (.t 25), none⟩,
  ⟨(some 27), .fa 4 (.t 26), none⟩,
  ⟨(some 28), .ld none (.t 27), none⟩,
  ⟨(some 29), .call (.k (.c (.fn fn_clock_cut_int [] []))) [(.t 19), (.t 24), (.t 28)], none⟩,
  ⟨(some 8), .mv (.t 29), none⟩]
abbrev o_clock_Clock_Round_5 : List IOper := [⟨(some 30), .mv (.t 0), none⟩,
  ⟨(some 31), .mv (.t 8), none⟩,
  ⟨(some 32), .call (.k (.c (.fn fn_clock_Clock_move [] []))) [(.t 30), (.t 31)], none⟩]
abbrev o_clock_Clock_Round_6 : List IOper := [⟨(some 33), .mv (.t 0), none⟩,
  ⟨(some 34), .build (List.replicate 16 (.bool false)) [], none⟩,
  ⟨(some 35), .nilck (.t 33), none⟩,
  ⟨(some 36), .fa 6 (.t 35), none⟩,
  ⟨none, .st 16 (.t 36) (.t 34), none⟩]
abbrev o_clock_Clock_Round_7 : List IOper := [⟨(some 37), .mv (.t 8), none⟩,
  ⟨(some 6), .mv (.t 37), none⟩,
  ⟨(some 7), .mv (.k (.c (.int .i64 0))), none⟩]
def c_clock_Clock_Round : IC := (.seq (.ops o_clock_Clock_Round_0) (.seq (.seq (.ops o_clock_Clock_Round_1) (.cond (.t 11) (.seq (.ops o_clock_Clock_Round_2) .ret) .skip)) (.seq (.ops o_clock_Clock_Round_3) (.seq (.ops o_clock_Clock_Round_4) (.seq (.ops o_clock_Clock_Round_5) (.seq (.ops o_clock_Clock_Round_6) (.seq (.ops o_clock_Clock_Round_7) .ret)))))))
def i_clock_Clock_Round : IFn := ⟨38, c_clock_Clock_Round, [(6, none), (7, none)]⟩

-- F 20 (*rota/clock.Clock).Set: bads 0, calls [25]
abbrev o_clock_Clock_Set_0 : List IOper := [⟨(some 4), .mv (.k (.c (.int .i64 0))), none⟩]
abbrev o_clock_Clock_Set_1 : List IOper := [⟨(some 6), .mv (.t 0), none⟩,
  ⟨(some 7), .call (.k (.c (.fn fn_clock_Clock_none [] []))) [(.t 6)], none⟩,
  ⟨(some 5), .mv (.t 7), none⟩]
abbrev o_clock_Clock_Set_2 : List IOper := [⟨(some 4), .mv (.k (.c (.int .i64 1))), none⟩]
abbrev o_clock_Clock_Set_3 : List IOper := [⟨(some 9), .mv (.t 1), none⟩,
  ⟨(some 10), .bin .lss (.t 9) (.k (.c (.int .i64 (-1099511627776)))), none⟩,
  ⟨(some 11), .mv (.t 10), none⟩,
  ⟨(some 12), .mv (.t 1), some (11, false)⟩,
  ⟨(some 13), .bin .gtr (.t 12) (.k (.c (.int .i64 1099511627776))), some (11, false)⟩,
  ⟨(some 14), .pick (.t 11) (.k (.c (.bool true))) (.t 13), none⟩,
  ⟨(some 8), .mv (.t 14), none⟩]
abbrev o_clock_Clock_Set_4 : List IOper := [⟨(some 4), .mv (.k (.c (.int .i64 2))), none⟩]
abbrev o_clock_Clock_Set_5 : List IOper := [⟨(some 15), .mv (.t 0), none⟩,
  ⟨(some 16), .mv (.t 1), none⟩,
  ⟨(some 17), .nilck (.t 15), none⟩,
  ⟨(some 18), .fa 5 (.t 17), none⟩,
  ⟨none, .st 1 (.t 18) (.t 16), none⟩]
abbrev o_clock_Clock_Set_6 : List IOper := [⟨(some 19), .mv (.t 0), none⟩,
  ⟨(some 20), .build (List.replicate 16 (.bool false)) [], none⟩,
  ⟨(some 21), .nilck (.t 19), none⟩,
  ⟨(some 22), .fa 6 (.t 21), none⟩,
  ⟨none, .st 16 (.t 22) (.t 20), none⟩]
abbrev o_clock_Clock_Set_7 : List IOper := [⟨(some 4), .mv (.k (.c (.int .i64 0))), none⟩]
def c_clock_Clock_Set : IC := (.seq (.ops o_clock_Clock_Set_0) (.seq (.block 0 (.seq (.ops o_clock_Clock_Set_1) (.cond (.t 5) (.seq (.ops o_clock_Clock_Set_2) .ret) (.seq (.ops o_clock_Clock_Set_3) (.cond (.t 8) (.seq (.ops o_clock_Clock_Set_4) .ret) .skip))))) (.seq (.ops o_clock_Clock_Set_5) (.seq (.ops o_clock_Clock_Set_6) (.seq (.ops o_clock_Clock_Set_7) .ret)))))
def i_clock_Clock_Set : IFn := ⟨23, c_clock_Clock_Set, [(4, none)]⟩

-- F 21 rota/rotaref08.New: bads 0, calls [30]
abbrev o_rotaref08_New_0 : List IOper := [⟨(some 1), .box 28 (.t 0), none⟩,
  ⟨(some 2), .new 54 (.agg ([(.int .i64 0)] ++ [(.sl none 0 0 false)] ++ List.replicate 6 (.int .i64 0) ++ List.replicate 4 (.sl none 0 0 false) ++ [(.int .i64 0)] ++ List.replicate 2 (.sl none 0 0 false))), none⟩,
  ⟨(some 3), .mv (.k (.c (.int .i64 0))), none⟩]
abbrev o_rotaref08_New_1 : List IOper := [⟨(some 5), .ld (some 12) (.t 1), none⟩,
  ⟨(some 6), .call (.k (.c (.fn fn_rotaref02_Check [] []))) [(.t 5)], none⟩,
  ⟨(some 4), .mv (.t 6), none⟩]
abbrev o_rotaref08_New_2 : List IOper := [⟨(some 7), .mv (.t 4), none⟩,
  ⟨(some 8), .bin .neq (.t 7) (.k (.c (.int .i64 0))), none⟩]
abbrev o_rotaref08_New_3 : List IOper := [⟨(some 9), .build ([(.int .i64 0)] ++ [(.sl none 0 0 false)] ++ List.replicate 6 (.int .i64 0) ++ List.replicate 4 (.sl none 0 0 false) ++ [(.int .i64 0)] ++ List.replicate 2 (.sl none 0 0 false)) [], none⟩,
  ⟨(some 10), .mv (.t 4), none⟩,
  ⟨none, .st 15 (.t 2) (.t 9), none⟩,
  ⟨(some 3), .mv (.t 10), none⟩]
abbrev o_rotaref08_New_4 : List IOper := [⟨(some 11), .ld (some 12) (.t 1), none⟩,
  ⟨(some 12), .fa 0 (.t 1), none⟩,
  ⟨(some 13), .ld none (.t 12), none⟩,
  ⟨(some 14), .mksl 3 1 8 [(.int .i64 0)] (.t 13) (.t 13), none⟩,
  ⟨(some 15), .fa 0 (.t 1), none⟩,
  ⟨(some 16), .ld none (.t 15), none⟩,
  ⟨(some 17), .mksl 4 1 1 [(.bool false)] (.t 16) (.t 16), none⟩,
  ⟨(some 18), .build ([(.int .i64 0)] ++ [(.sl none 0 0 false)] ++ List.replicate 6 (.int .i64 0) ++ List.replicate 4 (.sl none 0 0 false) ++ [(.int .i64 0)] ++ List.replicate 2 (.sl none 0 0 false)) [(0, 12, (.t 11)), (13, 1, (.t 14)), (14, 1, (.t 17))], none⟩,
  ⟨none, .st 15 (.t 2) (.t 18), none⟩,
  ⟨(some 3), .mv (.k (.c (.int .i64 0))), none⟩]
def c_rotaref08_New : IC := (.seq (.ops o_rotaref08_New_0) (.seq (.ops o_rotaref08_New_1) (.seq (.seq (.ops o_rotaref08_New_2) (.cond (.t 8) (.seq (.ops o_rotaref08_New_3) .ret) .skip)) (.seq (.ops o_rotaref08_New_4) .ret))))
def i_rotaref08_New : IFn := ⟨19, c_rotaref08_New, [(2, (some (some 15))), (3, none)]⟩

-- F 22 rota/rotalaw08.step: bads 0, calls [20, 31, 11, 32, 13, 33, 17, 34, 15, 35, 18, 36, 19, 37]
abbrev o_rotalaw08_step_0 : List IOper := [⟨(some 5), .box 60 (.t 2), none⟩,
  ⟨(some 6), .mv (.k (.c (.bool false))), none⟩]
abbrev o_rotalaw08_step_1 : List IOper := [⟨(some 23), .fa 0 (.t 5), none⟩,
  ⟨(some 24), .ld none (.t 23), none⟩]
abbrev o_rotalaw08_step_2 : List IOper := [⟨(some 26), .bin .eql (.t 24) (.k (.c (.int .i64 0))), none⟩,
  ⟨(some 25), .mv (.t 26), none⟩]
abbrev o_rotalaw08_step_3 : List IOper := [⟨(some 27), .mv (.t 0), none⟩,
  ⟨(some 28), .fa 1 (.t 5), none⟩,
  ⟨(some 29), .ld none (.t 28), none⟩,
  ⟨(some 30), .call (.k (.c (.fn fn_clock_Clock_Set [] []))) [(.t 27), (.t 29)], none⟩,
  ⟨(some 7), .mv (.t 30), none⟩]
abbrev o_rotalaw08_step_4 : List IOper := [⟨(some 31), .mv (.t 1), none⟩,
  ⟨(some 32), .fa 1 (.t 5), none⟩,
  ⟨(some 33), .ld none (.t 32), none⟩,
  ⟨(some 34), .call (.k (.c (.fn fn_rotaref08_Clock_Set [] []))) [(.t 31), (.t 33)], none⟩,
  ⟨(some 8), .mv (.t 34), none⟩]
abbrev o_rotalaw08_step_5 : List IOper := [⟨(some 35), .mv (.t 7), none⟩,
  ⟨(some 36), .mv (.t 8), none⟩,
  ⟨(some 37), .bin .eql (.t 35) (.t 36), none⟩,
  ⟨(some 6), .mv (.t 37), none⟩]
abbrev o_rotalaw08_step_6 : List IOper := [⟨(some 39), .bin .eql (.t 24) (.k (.c (.int .i64 1))), none⟩,
  ⟨(some 38), .mv (.t 39), none⟩]
abbrev o_rotalaw08_step_7 : List IOper := [⟨(some 40), .mv (.t 0), none⟩,
  ⟨(some 41), .fa 1 (.t 5), none⟩,
  ⟨(some 42), .ld none (.t 41), none⟩,
  ⟨(some 43), .call (.k (.c (.fn fn_clock_Clock_Drift [] []))) [(.t 40), (.t 42)], none⟩,
  ⟨(some 9), .mv (.t 43), none⟩]
abbrev o_rotalaw08_step_8 : List IOper := [⟨(some 44), .mv (.t 1), none⟩,
  ⟨(some 45), .fa 1 (.t 5), none⟩,
  ⟨(some 46), .ld none (.t 45), none⟩,
  ⟨(some 47), .call (.k (.c (.fn fn_rotaref08_Clock_Drift [] []))) [(.t 44), (.t 46)], none⟩]
abbrev o_rotalaw08_step_9 : List IOper := [⟨(some 48), .mv (.t 9), none⟩,
  ⟨(some 49), .bin .eql (.t 48) (.k (.c (.int .i64 0))), none⟩,
  ⟨(some 6), .mv (.t 49), none⟩]
abbrev o_rotalaw08_step_10 : List IOper := [⟨(some 51), .bin .eql (.t 24) (.k (.c (.int .i64 2))), none⟩,
  ⟨(some 50), .mv (.t 51), none⟩]
abbrev o_rotalaw08_step_11 : List IOper := [⟨(some 52), .mv (.t 0), none⟩,
  ⟨(some 53), .fa 1 (.t 5), none⟩,
  ⟨(some 54), .ld none (.t 53), none⟩,
  ⟨(some 55), .fa 2 (.t 5), none⟩,
  ⟨(some 56), .ld none (.t 55), none⟩,
  ⟨(some 57), .call (.k (.c (.fn fn_clock_Clock_Read [] []))) [(.t 52), (.t 54), (.t 56)], none⟩,
  ⟨(some 10), .mv (.t 57), none⟩]
abbrev o_rotalaw08_step_12 : List IOper := [⟨(some 58), .mv (.t 1), none⟩,
  ⟨(some 59), .fa 1 (.t 5), none⟩,
  ⟨(some 60), .ld none (.t 59), none⟩,
  ⟨(some 61), .fa 2 (.t 5), none⟩,
  ⟨(some 62), .ld none (.t 61), none⟩,
  ⟨(some 63), .call (.k (.c (.fn fn_rotaref08_Clock_Read [] []))) [(.t 58), (.t 60), (.t 62)], none⟩,
  ⟨(some 11), .mv (.t 63), none⟩]
abbrev o_rotalaw08_step_13 : List IOper := [⟨(some 64), .mv (.t 10), none⟩,
  ⟨(some 65), .mv (.t 11), none⟩,
  ⟨(some 66), .bin .eql (.t 64) (.t 65), none⟩,
  ⟨(some 6), .mv (.t 66), none⟩]
abbrev o_rotalaw08_step_14 : List IOper := [⟨(some 68), .bin .eql (.t 24) (.k (.c (.int .i64 3))), none⟩,
  ⟨(some 67), .mv (.t 68), none⟩]
abbrev o_rotalaw08_step_15 : List IOper := [⟨(some 69), .mv (.t 0), none⟩,
  ⟨(some 70), .fa 1 (.t 5), none⟩,
  ⟨(some 71), .ld none (.t 70), none⟩,
  ⟨(some 72), .call (.k (.c (.fn fn_clock_Clock_Fits [] []))) [(.t 69), (.t 71)], none⟩,
  ⟨(some 12), .mv (.t 72), none⟩]
abbrev o_rotalaw08_step_16 : List IOper := [⟨(some 73), .mv (.t 1), none⟩,
  ⟨(some 74), .fa 1 (.t 5), none⟩,
  ⟨(some 75), .ld none (.t 74), none⟩,
  ⟨(some 76), .call (.k (.c (.fn fn_rotaref08_Clock_Fits [] []))) [(.t 73), (.t 75)], none⟩,
  ⟨(some 13), .mv (.t 76), none⟩]
abbrev o_rotalaw08_step_17 : List IOper := [⟨(some 77), .mv (.t 12), none⟩,
  ⟨(some 78), .mv (.t 13), none⟩,
  ⟨(some 79), .eq .bool false (.t 77) (.t 78), none⟩,
  ⟨(some 6), .mv (.t 79), none⟩]
abbrev o_rotalaw08_step_18 : List IOper := [⟨(some 81), .bin .eql (.t 24) (.k (.c (.int .i64 4))), none⟩,
  ⟨(some 80), .mv (.t 81), none⟩]
abbrev o_rotalaw08_step_19 : List IOper := [⟨(some 82), .mv (.t 0), none⟩,
  ⟨(some 83), .fa 1 (.t 5), none⟩,
  ⟨(some 84), .ld none (.t 83), none⟩,
  ⟨(some 85), .fa 2 (.t 5), none⟩,
  ⟨(some 86), .ld none (.t 85), none⟩,
  ⟨(some 87), .call (.k (.c (.fn fn_clock_Clock_Hear [] []))) [(.t 82), (.t 84), (.t 86)], none⟩,
  ⟨(some 14), .mv (.t 87), none⟩]
abbrev o_rotalaw08_step_20 : List IOper := [⟨(some 88), .mv (.t 1), none⟩,
  ⟨(some 89), .fa 1 (.t 5), none⟩,
  ⟨(some 90), .ld none (.t 89), none⟩,
  ⟨(some 91), .fa 2 (.t 5), none⟩,
  ⟨(some 92), .ld none (.t 91), none⟩,
  ⟨(some 93), .call (.k (.c (.fn fn_rotaref08_Clock_Hear [] []))) [(.t 88), (.t 90), (.t 92)], none⟩,
  ⟨(some 15), .mv (.t 93), none⟩]
abbrev o_rotalaw08_step_21 : List IOper := [⟨(some 94), .mv (.t 14), none⟩,
  ⟨(some 95), .mv (.t 15), none⟩,
  ⟨(some 96), .bin .eql (.t 94) (.t 95), none⟩,
  ⟨(some 6), .mv (.t 96), none⟩]
abbrev o_rotalaw08_step_22 : List IOper := [⟨(some 98), .bin .eql (.t 24) (.k (.c (.int .i64 5))), none⟩,
  ⟨(some 97), .mv (.t 98), none⟩]
abbrev o_rotalaw08_step_23 : List IOper := [⟨(some 100), .mv (.t 0), none⟩,
  ⟨(some 101), .fa 3 (.t 5), none⟩,
  ⟨(some 102), .ld none (.t 101), none⟩,
  ⟨(some 103), .fa 1 (.t 5), none⟩,
  ⟨(some 104), .ld none (.t 103), none⟩,
  ⟨(some 105), .call (.k (.c (.fn fn_clock_Clock_Average [] []))) [(.t 100), (.t 102), (.t 104)], none⟩,
  ⟨(some 99), .mv (.t 105), none⟩,
  ⟨(some 106), .ext (.t 99) 0, none⟩,
  ⟨(some 107), .ext (.t 99) 1, none⟩,
  ⟨(some 16), .mv (.t 106), none⟩,
  ⟨(some 17), .mv (.t 107), none⟩]
abbrev o_rotalaw08_step_24 : List IOper := [⟨(some 109), .mv (.t 1), none⟩,
  ⟨(some 110), .fa 3 (.t 5), none⟩,
  ⟨(some 111), .ld none (.t 110), none⟩,
  ⟨(some 112), .fa 1 (.t 5), none⟩,
  ⟨(some 113), .ld none (.t 112), none⟩,
  ⟨(some 114), .call (.k (.c (.fn fn_rotaref08_Clock_Average [] []))) [(.t 109), (.t 111), (.t 113)], none⟩,
  ⟨(some 108), .mv (.t 114), none⟩,
  ⟨(some 115), .ext (.t 108) 0, none⟩,
  ⟨(some 116), .ext (.t 108) 1, none⟩,
  ⟨(some 18), .mv (.t 115), none⟩,
  ⟨(some 19), .mv (.t 116), none⟩]
abbrev o_rotalaw08_step_25 : List IOper := [⟨(some 117), .mv (.t 16), none⟩,
  ⟨(some 118), .mv (.t 18), none⟩,
  ⟨(some 119), .bin .eql (.t 117) (.t 118), none⟩,
  ⟨(some 120), .mv (.t 119), none⟩,
  ⟨(some 121), .mv (.t 17), some (120, true)⟩,
  ⟨(some 122), .mv (.t 19), some (120, true)⟩,
  ⟨(some 123), .eq .bool false (.t 121) (.t 122), some (120, true)⟩,
  ⟨(some 124), .pick (.t 120) (.t 123) (.k (.c (.bool false))), none⟩,
  ⟨(some 6), .mv (.t 124), none⟩]
abbrev o_rotalaw08_step_26 : List IOper := [⟨(some 126), .bin .eql (.t 24) (.k (.c (.int .i64 6))), none⟩,
  ⟨(some 125), .mv (.t 126), none⟩]
abbrev o_rotalaw08_step_27 : List IOper := [⟨(some 128), .mv (.t 0), none⟩,
  ⟨(some 129), .fa 3 (.t 5), none⟩,
  ⟨(some 130), .ld none (.t 129), none⟩,
  ⟨(some 131), .fa 1 (.t 5), none⟩,
  ⟨(some 132), .ld none (.t 131), none⟩,
  ⟨(some 133), .call (.k (.c (.fn fn_clock_Clock_Round [] []))) [(.t 128), (.t 130), (.t 132)], none⟩,
  ⟨(some 127), .mv (.t 133), none⟩,
  ⟨(some 134), .ext (.t 127) 0, none⟩,
  ⟨(some 135), .ext (.t 127) 1, none⟩,
  ⟨(some 20), .mv (.t 134), none⟩,
  ⟨(some 21), .mv (.t 135), none⟩]
abbrev o_rotalaw08_step_28 : List IOper := [⟨(some 136), .mv (.t 1), none⟩,
  ⟨(some 137), .fa 3 (.t 5), none⟩,
  ⟨(some 138), .ld none (.t 137), none⟩,
  ⟨(some 139), .fa 1 (.t 5), none⟩,
  ⟨(some 140), .ld none (.t 139), none⟩,
  ⟨(some 141), .call (.k (.c (.fn fn_rotaref08_Clock_Round [] []))) [(.t 136), (.t 138), (.t 140)], none⟩,
  ⟨(some 22), .mv (.t 141), none⟩]
abbrev o_rotalaw08_step_29 : List IOper := [⟨(some 142), .mv (.t 20), none⟩,
  ⟨(some 143), .mv (.t 22), none⟩,
  ⟨(some 144), .bin .eql (.t 142) (.t 143), none⟩,
  ⟨(some 145), .mv (.t 144), none⟩,
  ⟨(some 146), .mv (.t 21), some (145, true)⟩,
  ⟨(some 147), .bin .eql (.t 146) (.k (.c (.int .i64 0))), some (145, true)⟩,
  ⟨(some 148), .pick (.t 145) (.t 147) (.k (.c (.bool false))), none⟩,
  ⟨(some 6), .mv (.t 148), none⟩]
abbrev o_rotalaw08_step_30 : List IOper := [⟨(some 6), .mv (.k (.c (.bool true))), none⟩]
def c_rotalaw08_step : IC := (.seq (.ops o_rotalaw08_step_0) (.seq (.seq (.ops o_rotalaw08_step_1) (.block 0 (.seq (.ops o_rotalaw08_step_2) (.cond (.t 25) (.seq (.ops o_rotalaw08_step_3) (.seq (.ops o_rotalaw08_step_4) (.seq (.ops o_rotalaw08_step_5) .ret))) (.seq (.ops o_rotalaw08_step_6) (.cond (.t 38) (.seq (.ops o_rotalaw08_step_7) (.seq (.ops o_rotalaw08_step_8) (.seq (.ops o_rotalaw08_step_9) .ret))) (.seq (.ops o_rotalaw08_step_10) (.cond (.t 50) (.seq (.ops o_rotalaw08_step_11) (.seq (.ops o_rotalaw08_step_12) (.seq (.ops o_rotalaw08_step_13) .ret))) (.seq (.ops o_rotalaw08_step_14) (.cond (.t 67) (.seq (.ops o_rotalaw08_step_15) (.seq (.ops o_rotalaw08_step_16) (.seq (.ops o_rotalaw08_step_17) .ret))) (.seq (.ops o_rotalaw08_step_18) (.cond (.t 80) (.seq (.ops o_rotalaw08_step_19) (.seq (.ops o_rotalaw08_step_20) (.seq (.ops o_rotalaw08_step_21) .ret))) (.seq (.ops o_rotalaw08_step_22) (.cond (.t 97) (.seq (.ops o_rotalaw08_step_23) (.seq (.ops o_rotalaw08_step_24) (.seq (.ops o_rotalaw08_step_25) .ret))) (.seq (.ops o_rotalaw08_step_26) (.cond (.t 125) (.seq (.ops o_rotalaw08_step_27) (.seq (.ops o_rotalaw08_step_28) (.seq (.ops o_rotalaw08_step_29) .ret))) .skip)))))))))))))))) (.seq (.ops o_rotalaw08_step_30) .ret)))
def i_rotalaw08_step : IFn := ⟨149, c_rotalaw08_step, [(6, none)]⟩

-- F 23 rota/rotalaw07.Four: bads 0, calls []
abbrev o_rotalaw07_Four_0 : List IOper := [⟨(some 0), .new 28 (.agg ([(.int .i64 0)] ++ [(.sl none 0 0 false)] ++ List.replicate 6 (.int .i64 0) ++ List.replicate 4 (.sl none 0 0 false))), none⟩]
abbrev o_rotalaw07_Four_1 : List IOper := [⟨(some 2), .bsl 3 4 (List.replicate 4 (.int .i64 0)) [(0, 1, (.k (.c (.int .i64 (-1))))), (1, 1, (.k (.c (.int .i64 (-1))))), (2, 1, (.k (.c (.int .i64 (-1))))), (3, 1, (.k (.c (.int .i64 (-1)))))], none⟩,
  ⟨(some 1), .mv (.t 2), none⟩]
abbrev o_rotalaw07_Four_2 : List IOper := [⟨(some 3), .bsl 3 4 (List.replicate 4 (.int .i64 0)) [(0, 1, (.k (.c (.int .i64 0)))), (1, 1, (.k (.c (.int .i64 1)))), (2, 1, (.k (.c (.int .i64 2)))), (3, 1, (.k (.c (.int .i64 3))))], none⟩,
  ⟨(some 4), .mv (.t 1), none⟩,
  ⟨(some 5), .mv (.t 1), none⟩,
  ⟨(some 6), .mv (.t 1), none⟩,
  ⟨(some 7), .mv (.t 1), none⟩,
  ⟨(some 8), .bsl 22 4 (List.replicate 4 (.sl none 0 0 false)) [(0, 1, (.t 4)), (1, 1, (.t 5)), (2, 1, (.t 6)), (3, 1, (.t 7))], none⟩,
  ⟨(some 9), .build ([(.int .i64 0)] ++ [(.sl none 0 0 false)] ++ List.replicate 6 (.int .i64 0) ++ List.replicate 4 (.sl none 0 0 false)) [(0, 1, (.k (.c (.int .i64 4)))), (1, 1, (.t 3)), (2, 1, (.k (.c (.int .i64 1)))), (3, 1, (.k (.c (.int .i64 1)))), (4, 1, (.k (.c (.int .i64 20)))), (5, 1, (.k (.c (.int .i64 20)))), (6, 1, (.k (.c (.int .i64 1)))), (7, 1, (.k (.c (.int .i64 4)))), (9, 1, (.t 8))], none⟩,
  ⟨none, .st 12 (.t 0) (.t 9), none⟩]
def c_rotalaw07_Four : IC := (.seq (.ops o_rotalaw07_Four_0) (.seq (.ops o_rotalaw07_Four_1) (.seq (.ops o_rotalaw07_Four_2) .ret)))
def i_rotalaw07_Four : IFn := ⟨10, c_rotalaw07_Four, [(0, (some (some 12)))]⟩

-- F 24 rota/config.fine: bads 0, calls [38, 39, 40, 41, 42, 43]
abbrev o_config_fine_0 : List IOper := [⟨(some 3), .box 28 (.t 1), none⟩,
  ⟨(some 4), .mv (.k (.c (.bool false))), none⟩]
abbrev o_config_fine_1 : List IOper := [⟨(some 5), .mv (.t 0), none⟩]
abbrev o_config_fine_2 : List IOper := [⟨(some 7), .bin .eql (.t 5) (.k (.c (.int .i64 21))), none⟩,
  ⟨(some 6), .mv (.t 7), none⟩]
abbrev o_config_fine_3 : List IOper := [⟨(some 8), .ld (some 12) (.t 3), none⟩,
  ⟨(some 9), .call (.k (.c (.fn fn_config_nodes [] []))) [(.t 8)], none⟩,
  ⟨(some 4), .mv (.t 9), none⟩]
abbrev o_config_fine_4 : List IOper := [⟨(some 11), .bin .eql (.t 5) (.k (.c (.int .i64 22))), none⟩,
  ⟨(some 10), .mv (.t 11), none⟩]
abbrev o_config_fine_5 : List IOper := [⟨(some 12), .ld (some 12) (.t 3), none⟩,
  ⟨(some 13), .call (.k (.c (.fn fn_config_clocks [] []))) [(.t 12)], none⟩,
  ⟨(some 4), .mv (.t 13), none⟩]
abbrev o_config_fine_6 : List IOper := [⟨(some 15), .bin .eql (.t 5) (.k (.c (.int .i64 23))), none⟩,
  ⟨(some 14), .mv (.t 15), none⟩]
abbrev o_config_fine_7 : List IOper := [⟨(some 16), .ld (some 12) (.t 3), none⟩,
  ⟨(some 17), .call (.k (.c (.fn fn_config_parts [] []))) [(.t 16)], none⟩,
  ⟨(some 4), .mv (.t 17), none⟩]
abbrev o_config_fine_8 : List IOper := [⟨(some 19), .bin .eql (.t 5) (.k (.c (.int .i64 24))), none⟩,
  ⟨(some 18), .mv (.t 19), none⟩]
abbrev o_config_fine_9 : List IOper := [⟨(some 20), .ld (some 12) (.t 3), none⟩,
  ⟨(some 21), .call (.k (.c (.fn fn_config_windows [] []))) [(.t 20)], none⟩,
  ⟨(some 4), .mv (.t 21), none⟩]
abbrev o_config_fine_10 : List IOper := [⟨(some 23), .bin .eql (.t 5) (.k (.c (.int .i64 25))), none⟩,
  ⟨(some 22), .mv (.t 23), none⟩]
abbrev o_config_fine_11 : List IOper := [⟨(some 24), .ld (some 12) (.t 3), none⟩,
  ⟨(some 25), .call (.k (.c (.fn fn_config_ports [] []))) [(.t 24)], none⟩,
  ⟨(some 4), .mv (.t 25), none⟩]
abbrev o_config_fine_12 : List IOper := [⟨(some 26), .ld (some 12) (.t 3), none⟩,
  ⟨(some 27), .call (.k (.c (.fn fn_config_links [] []))) [(.t 26)], none⟩,
  ⟨(some 4), .mv (.t 27), none⟩]
def c_config_fine : IC := (.seq (.ops o_config_fine_0) (.seq (.seq (.ops o_config_fine_1) (.block 0 (.seq (.ops o_config_fine_2) (.cond (.t 6) (.seq (.ops o_config_fine_3) .ret) (.seq (.ops o_config_fine_4) (.cond (.t 10) (.seq (.ops o_config_fine_5) .ret) (.seq (.ops o_config_fine_6) (.cond (.t 14) (.seq (.ops o_config_fine_7) .ret) (.seq (.ops o_config_fine_8) (.cond (.t 18) (.seq (.ops o_config_fine_9) .ret) (.seq (.ops o_config_fine_10) (.cond (.t 22) (.seq (.ops o_config_fine_11) .ret) .skip)))))))))))) (.seq (.ops o_config_fine_12) .ret)))
def i_config_fine : IFn := ⟨28, c_config_fine, [(4, none)]⟩

-- F 25 (*rota/clock.Clock).none: bads 0, calls []
abbrev o_clock_Clock_none_0 : List IOper := [⟨(some 2), .mv (.k (.c (.bool false))), none⟩]
abbrev o_clock_Clock_none_1 : List IOper := [⟨(some 3), .mv (.t 0), none⟩,
  ⟨(some 4), .eq .ptr false (.t 3) (.k (.c (.ptr none))), none⟩,
  ⟨(some 5), .mv (.t 4), none⟩,
  ⟨(some 6), .mv (.t 0), some (5, false)⟩,
  ⟨(some 7), .nilck (.t 6), some (5, false)⟩,
  ⟨(some 8), .fa 0 (.t 7), some (5, false)⟩,
  ⟨(some 9), .ld none (.t 8), some (5, false)⟩,
  ⟨(some 10), .bin .eql (.t 9) (.k (.c (.int .i64 0))), some (5, false)⟩,
  ⟨(some 11), .pick (.t 5) (.k (.c (.bool true))) (.t 10), none⟩,
  ⟨(some 2), .mv (.t 11), none⟩]
def c_clock_Clock_none : IC := (.seq (.ops o_clock_Clock_none_0) (.seq (.ops o_clock_Clock_none_1) .ret))
def i_clock_Clock_none : IFn := ⟨12, c_clock_Clock_none, [(2, none)]⟩

-- F 26 (*rota/clock.Clock).move: bads 0, calls [27]
abbrev o_clock_Clock_move_0 : List IOper := [⟨(some 4), .mv (.t 0), none⟩,
  ⟨(some 5), .mv (.t 0), none⟩,
  ⟨(some 6), .nilck (.t 5), none⟩,
  ⟨(some 7), .fa 5 (.t 6), none⟩,
  ⟨(some 8), .ld none (.t 7), none⟩,
  ⟨(some 9), .mv (.t 1), none⟩,
  ⟨(some 10), .bin .add (.t 8) (.t 9), none⟩,
  ⟨(some 11), .call (.k (.c (.fn fn_clock_cut_int [] []))) [(.t 10), (.k (.c (.int .i64 (-1099511627776)))), (.k (.c (.int .i64 1099511627776)))], none⟩,
  ⟨(some 12), .nilck (.t 4), none⟩,
  ⟨(some 13), .fa 5 (.t 12), none⟩,
  ⟨none, .st 1 (.t 13) (.t 11), none⟩]
def c_clock_Clock_move : IC := (.ops o_clock_Clock_move_0)
def i_clock_Clock_move : IFn := ⟨14, c_clock_Clock_move, []⟩

-- F 27 rota/clock.cut[int]: bads 0, calls []
abbrev o_clock_cut_int_0 : List IOper := [⟨(some 6), .mv (.k (.c (.int .i64 0))), none⟩]
abbrev o_clock_cut_int_1 : List IOper := [⟨(some 7), .mv (.t 1), none⟩,
  ⟨(some 8), .mv (.t 2), none⟩,
  ⟨(some 9), .mv (.t 0), none⟩,
  ⟨(some 10), .mn (.t 8) [(.t 9)], none⟩,
  ⟨(some 11), .mx (.t 7) [(.t 10)], none⟩,
  ⟨(some 6), .mv (.t 11), none⟩]
def c_clock_cut_int : IC := (.seq (.ops o_clock_cut_int_0) (.seq (.ops o_clock_cut_int_1) .ret))
def i_clock_cut_int : IFn := ⟨12, c_clock_cut_int, [(6, none)]⟩

-- F 28 (*rota/clock.Clock).of: bads 0, calls [44]
abbrev o_clock_Clock_of_0 : List IOper := [⟨(some 3), .box 35 (.t 0), none⟩,
  ⟨(some 4), .box 34 (.t 1), none⟩,
  ⟨(some 5), .box 3 (.t 2), none⟩,
  ⟨(some 6), .mv (.k (.c .nilFn)), none⟩]
abbrev o_clock_Clock_of_1 : List IOper := [⟨(some 7), .mkfn fn_clock_Clock_of_1 [] [(.t 3), (.t 4), (.t 5)], none⟩,
  ⟨(some 6), .mv (.t 7), none⟩]
def c_clock_Clock_of : IC := (.seq (.ops o_clock_Clock_of_0) (.seq (.ops o_clock_Clock_of_1) .ret))
def i_clock_Clock_of : IFn := ⟨8, c_clock_Clock_of, [(6, none)]⟩

-- F 29 slices.Sort[[]int,int]: NO BODY

-- F 30 rota/rotaref02.Check: bads 0, calls [47, 48, 49, 50, 51, 52]
abbrev o_rotaref02_Check_0 : List IOper := [⟨(some 1), .box 28 (.t 0), none⟩,
  ⟨(some 2), .mv (.k (.c (.int .i64 0))), none⟩]
abbrev o_rotaref02_Check_1 : List IOper := [⟨(some 3), .ld (some 12) (.t 1), none⟩,
  ⟨(some 4), .call (.k (.c (.fn fn_rotaref02_nodes [] []))) [(.t 3)], none⟩,
  ⟨(some 5), .un .not (.t 4), none⟩]
abbrev o_rotaref02_Check_2 : List IOper := [⟨(some 2), .mv (.k (.c (.int .i64 21))), none⟩]
abbrev o_rotaref02_Check_3 : List IOper := [⟨(some 6), .ld (some 12) (.t 1), none⟩,
  ⟨(some 7), .call (.k (.c (.fn fn_rotaref02_clock [] []))) [(.t 6)], none⟩,
  ⟨(some 8), .un .not (.t 7), none⟩]
abbrev o_rotaref02_Check_4 : List IOper := [⟨(some 2), .mv (.k (.c (.int .i64 22))), none⟩]
abbrev o_rotaref02_Check_5 : List IOper := [⟨(some 9), .ld (some 12) (.t 1), none⟩,
  ⟨(some 10), .call (.k (.c (.fn fn_rotaref02_parts [] []))) [(.t 9)], none⟩,
  ⟨(some 11), .un .not (.t 10), none⟩]
abbrev o_rotaref02_Check_6 : List IOper := [⟨(some 2), .mv (.k (.c (.int .i64 23))), none⟩]
abbrev o_rotaref02_Check_7 : List IOper := [⟨(some 12), .ld (some 12) (.t 1), none⟩,
  ⟨(some 13), .call (.k (.c (.fn fn_rotaref02_windows [] []))) [(.t 12)], none⟩,
  ⟨(some 14), .un .not (.t 13), none⟩]
abbrev o_rotaref02_Check_8 : List IOper := [⟨(some 2), .mv (.k (.c (.int .i64 24))), none⟩]
abbrev o_rotaref02_Check_9 : List IOper := [⟨(some 15), .ld (some 12) (.t 1), none⟩,
  ⟨(some 16), .call (.k (.c (.fn fn_rotaref02_ports [] []))) [(.t 15)], none⟩,
  ⟨(some 17), .un .not (.t 16), none⟩]
abbrev o_rotaref02_Check_10 : List IOper := [⟨(some 2), .mv (.k (.c (.int .i64 25))), none⟩]
abbrev o_rotaref02_Check_11 : List IOper := [⟨(some 18), .ld (some 12) (.t 1), none⟩,
  ⟨(some 19), .call (.k (.c (.fn fn_rotaref02_links [] []))) [(.t 18)], none⟩,
  ⟨(some 20), .un .not (.t 19), none⟩]
abbrev o_rotaref02_Check_12 : List IOper := [⟨(some 2), .mv (.k (.c (.int .i64 26))), none⟩]
abbrev o_rotaref02_Check_13 : List IOper := [⟨(some 2), .mv (.k (.c (.int .i64 0))), none⟩]
def c_rotaref02_Check : IC := (.seq (.ops o_rotaref02_Check_0) (.seq (.seq (.ops o_rotaref02_Check_1) (.cond (.t 5) (.seq (.ops o_rotaref02_Check_2) .ret) .skip)) (.seq (.seq (.ops o_rotaref02_Check_3) (.cond (.t 8) (.seq (.ops o_rotaref02_Check_4) .ret) .skip)) (.seq (.seq (.ops o_rotaref02_Check_5) (.cond (.t 11) (.seq (.ops o_rotaref02_Check_6) .ret) .skip)) (.seq (.seq (.ops o_rotaref02_Check_7) (.cond (.t 14) (.seq (.ops o_rotaref02_Check_8) .ret) .skip)) (.seq (.seq (.ops o_rotaref02_Check_9) (.cond (.t 17) (.seq (.ops o_rotaref02_Check_10) .ret) .skip)) (.seq (.seq (.ops o_rotaref02_Check_11) (.cond (.t 20) (.seq (.ops o_rotaref02_Check_12) .ret) .skip)) (.seq (.ops o_rotaref02_Check_13) .ret))))))))
def i_rotaref02_Check : IFn := ⟨21, c_rotaref02_Check, [(2, none)]⟩

-- F 31 (*rota/rotaref08.Clock).Set: bads 0, calls [53]
abbrev o_rotaref08_Clock_Set_0 : List IOper := [⟨(some 4), .mv (.k (.c (.int .i64 0))), none⟩]
abbrev o_rotaref08_Clock_Set_1 : List IOper := [⟨(some 5), .mv (.t 1), none⟩,
  ⟨(some 6), .mv (.t 1), none⟩,
  ⟨(some 7), .call (.k (.c (.fn fn_rotaref08_Cut [] []))) [(.t 6), (.k (.c (.int .i64 1099511627776)))], none⟩,
  ⟨(some 8), .bin .neq (.t 5) (.t 7), none⟩]
abbrev o_rotaref08_Clock_Set_2 : List IOper := [⟨(some 4), .mv (.k (.c (.int .i64 2))), none⟩]
abbrev o_rotaref08_Clock_Set_3 : List IOper := [⟨(some 9), .mv (.t 0), none⟩,
  ⟨(some 10), .mv (.t 1), none⟩,
  ⟨(some 11), .nilck (.t 9), none⟩,
  ⟨(some 12), .fa 12 (.t 11), none⟩,
  ⟨none, .st 1 (.t 12) (.t 10), none⟩]
abbrev o_rotaref08_Clock_Set_4 : List IOper := [⟨(some 13), .mv (.t 0), none⟩,
  ⟨(some 14), .mv (.t 0), none⟩,
  ⟨(some 15), .nilck (.t 14), none⟩,
  ⟨(some 16), .fa 0 (.t 15), none⟩,
  ⟨(some 17), .fa 0 (.t 16), none⟩,
  ⟨(some 18), .ld none (.t 17), none⟩,
  ⟨(some 19), .mksl 4 1 1 [(.bool false)] (.t 18) (.t 18), none⟩,
  ⟨(some 20), .nilck (.t 13), none⟩,
  ⟨(some 21), .fa 14 (.t 20), none⟩,
  ⟨none, .st 1 (.t 21) (.t 19), none⟩]
abbrev o_rotaref08_Clock_Set_5 : List IOper := [⟨(some 4), .mv (.k (.c (.int .i64 0))), none⟩]
def c_rotaref08_Clock_Set : IC := (.seq (.ops o_rotaref08_Clock_Set_0) (.seq (.seq (.ops o_rotaref08_Clock_Set_1) (.cond (.t 8) (.seq (.ops o_rotaref08_Clock_Set_2) .ret) .skip)) (.seq (.ops o_rotaref08_Clock_Set_3) (.seq (.ops o_rotaref08_Clock_Set_4) (.seq (.ops o_rotaref08_Clock_Set_5) .ret)))))
def i_rotaref08_Clock_Set : IFn := ⟨22, c_rotaref08_Clock_Set, [(4, none)]⟩

-- F 32 (*rota/rotaref08.Clock).Drift: bads 0, calls [53, 53]
abbrev o_rotaref08_Clock_Drift_0 : List IOper := [⟨(some 10), .mv (.t 0), none⟩,
  ⟨(some 11), .nilck (.t 10), none⟩,
  ⟨(some 12), .fa 0 (.t 11), none⟩,
  ⟨(some 13), .fa 2 (.t 12), none⟩,
  ⟨(some 14), .ld none (.t 13), none⟩,
  ⟨(some 9), .mv (.t 1), none⟩,
  ⟨(some 5), .mv (.t 0), none⟩,
  ⟨(some 6), .nilck (.t 5), none⟩,
  ⟨(some 7), .fa 12 (.t 6), none⟩,
  ⟨(some 8), .ld none (.t 7), none⟩,
  ⟨(some 4), .mv (.t 0), none⟩,
  ⟨(some 15), .call (.k (.c (.fn fn_rotaref08_Cut [] []))) [(.t 9), (.t 14)], none⟩,
  ⟨none, .same (some none) (.t 7) (.t 8), none⟩,
  ⟨(some 16), .bin .add (.t 8) (.t 15), none⟩,
  ⟨(some 17), .call (.k (.c (.fn fn_rotaref08_Cut [] []))) [(.t 16), (.k (.c (.int .i64 1099511627776)))], none⟩,
  ⟨(some 18), .nilck (.t 4), none⟩,
  ⟨(some 19), .fa 12 (.t 18), none⟩,
  ⟨none, .st 1 (.t 19) (.t 17), none⟩]
def c_rotaref08_Clock_Drift : IC := (.ops o_rotaref08_Clock_Drift_0)
def i_rotaref08_Clock_Drift : IFn := ⟨20, c_rotaref08_Clock_Drift, []⟩

-- F 33 (*rota/rotaref08.Clock).Read: bads 0, calls [53, 53]
abbrev o_rotaref08_Clock_Read_0 : List IOper := [⟨(some 6), .mv (.k (.c (.int .i64 0))), none⟩]
abbrev o_rotaref08_Clock_Read_1 : List IOper := [⟨(some 15), .mv (.t 0), none⟩,
  ⟨(some 16), .nilck (.t 15), none⟩,
  ⟨(some 17), .fa 0 (.t 16), none⟩,
  ⟨(some 18), .fa 3 (.t 17), none⟩,
  ⟨(some 19), .ld none (.t 18), none⟩,
  ⟨(some 14), .mv (.t 2), none⟩,
  ⟨(some 9), .mv (.t 0), none⟩,
  ⟨(some 10), .nilck (.t 9), none⟩,
  ⟨(some 11), .fa 12 (.t 10), none⟩,
  ⟨(some 12), .ld none (.t 11), none⟩,
  ⟨(some 7), .mv (.t 1), none⟩,
  ⟨(some 8), .call (.k (.c (.fn fn_rotaref08_Cut [] []))) [(.t 7), (.k (.c (.int .i64 1099511627776)))], none⟩,
  ⟨none, .same (some none) (.t 18) (.t 19), none⟩,
  ⟨none, .same (some none) (.t 11) (.t 12), none⟩,
  ⟨(some 13), .bin .sub (.t 8) (.t 12), none⟩,
  ⟨(some 20), .call (.k (.c (.fn fn_rotaref08_Cut [] []))) [(.t 14), (.t 19)], none⟩,
  ⟨none, .same (some none) (.t 11) (.t 12), none⟩,
  ⟨(some 21), .bin .add (.t 13) (.t 20), none⟩,
  ⟨(some 6), .mv (.t 21), none⟩]
def c_rotaref08_Clock_Read : IC := (.seq (.ops o_rotaref08_Clock_Read_0) (.seq (.ops o_rotaref08_Clock_Read_1) .ret))
def i_rotaref08_Clock_Read : IFn := ⟨22, c_rotaref08_Clock_Read, [(6, none)]⟩

-- F 34 (*rota/rotaref08.Clock).Fits: bads 0, calls [53]
abbrev o_rotaref08_Clock_Fits_0 : List IOper := [⟨(some 4), .mv (.k (.c (.bool false))), none⟩]
abbrev o_rotaref08_Clock_Fits_1 : List IOper := [⟨(some 5), .mv (.t 1), none⟩,
  ⟨(some 6), .mv (.t 1), none⟩,
  ⟨(some 7), .mv (.t 0), none⟩,
  ⟨(some 8), .nilck (.t 7), none⟩,
  ⟨(some 9), .fa 0 (.t 8), none⟩,
  ⟨(some 10), .fa 4 (.t 9), none⟩,
  ⟨(some 11), .ld none (.t 10), none⟩,
  ⟨(some 12), .call (.k (.c (.fn fn_rotaref08_Cut [] []))) [(.t 6), (.t 11)], none⟩,
  ⟨(some 13), .bin .eql (.t 5) (.t 12), none⟩,
  ⟨(some 4), .mv (.t 13), none⟩]
def c_rotaref08_Clock_Fits : IC := (.seq (.ops o_rotaref08_Clock_Fits_0) (.seq (.ops o_rotaref08_Clock_Fits_1) .ret))
def i_rotaref08_Clock_Fits : IFn := ⟨14, c_rotaref08_Clock_Fits, [(4, none)]⟩

-- F 35 (*rota/rotaref08.Clock).Hear: bads 0, calls [53]
abbrev o_rotaref08_Clock_Hear_0 : List IOper := [⟨(some 6), .mv (.k (.c (.int .i64 0))), none⟩]
abbrev o_rotaref08_Clock_Hear_1 : List IOper := [⟨(some 7), .mv (.t 1), none⟩,
  ⟨(some 8), .bin .lss (.t 7) (.k (.c (.int .i64 0))), none⟩,
  ⟨(some 9), .mv (.t 8), none⟩,
  ⟨(some 10), .mv (.t 1), some (9, false)⟩,
  ⟨(some 11), .mv (.t 0), some (9, false)⟩,
  ⟨(some 12), .nilck (.t 11), some (9, false)⟩,
  ⟨(some 13), .fa 0 (.t 12), some (9, false)⟩,
  ⟨(some 14), .fa 0 (.t 13), some (9, false)⟩,
  ⟨(some 15), .ld none (.t 14), some (9, false)⟩,
  ⟨(some 16), .bin .geq (.t 10) (.t 15), some (9, false)⟩,
  ⟨(some 17), .pick (.t 9) (.k (.c (.bool true))) (.t 16), none⟩,
  ⟨(some 18), .mv (.t 17), none⟩,
  ⟨(some 19), .mv (.t 2), some (18, false)⟩,
  ⟨(some 20), .mv (.t 2), some (18, false)⟩,
  ⟨(some 21), .call (.k (.c (.fn fn_rotaref08_Cut [] []))) [(.t 20), (.k (.c (.int .i64 2199023255552)))], some (18, false)⟩,
  ⟨(some 22), .bin .neq (.t 19) (.t 21), some (18, false)⟩,
  ⟨(some 23), .pick (.t 18) (.k (.c (.bool true))) (.t 22), none⟩]
abbrev o_rotaref08_Clock_Hear_2 : List IOper := [⟨(some 6), .mv (.k (.c (.int .i64 2))), none⟩]
abbrev o_rotaref08_Clock_Hear_3 : List IOper := [⟨(some 24), .mv (.t 0), none⟩,
  ⟨(some 25), .nilck (.t 24), none⟩,
  ⟨(some 26), .fa 13 (.t 25), none⟩,
  ⟨(some 27), .ld none (.t 26), none⟩,
  ⟨(some 28), .mv (.t 1), none⟩,
  ⟨(some 29), .mv (.t 2), none⟩,
  ⟨(some 30), .iaS 1 (.t 27) (.t 28), none⟩,
  ⟨none, .st 1 (.t 30) (.t 29), none⟩]
abbrev o_rotaref08_Clock_Hear_4 : List IOper := [⟨(some 31), .mv (.t 0), none⟩,
  ⟨(some 32), .nilck (.t 31), none⟩,
  ⟨(some 33), .fa 14 (.t 32), none⟩,
  ⟨(some 34), .ld none (.t 33), none⟩,
  ⟨(some 35), .mv (.t 1), none⟩,
  ⟨(some 36), .iaS 1 (.t 34) (.t 35), none⟩,
  ⟨none, .st 1 (.t 36) (.k (.c (.bool true))), none⟩]
abbrev o_rotaref08_Clock_Hear_5 : List IOper := [⟨(some 6), .mv (.k (.c (.int .i64 0))), none⟩]
def c_rotaref08_Clock_Hear : IC := (.seq (.ops o_rotaref08_Clock_Hear_0) (.seq (.seq (.ops o_rotaref08_Clock_Hear_1) (.cond (.t 23) (.seq (.ops o_rotaref08_Clock_Hear_2) .ret) .skip)) (.seq (.ops o_rotaref08_Clock_Hear_3) (.seq (.ops o_rotaref08_Clock_Hear_4) (.seq (.ops o_rotaref08_Clock_Hear_5) .ret)))))
def i_rotaref08_Clock_Hear : IFn := ⟨37, c_rotaref08_Clock_Hear, [(6, none)]⟩

-- F 36 (*rota/rotaref08.Clock).Average: bads 0, calls [54, 55]
abbrev o_rotaref08_Clock_Average_0 : List IOper := [⟨(some 6), .mv (.k (.c (.int .i64 0))), none⟩,
  ⟨(some 7), .mv (.k (.c (.bool false))), none⟩]
abbrev o_rotaref08_Clock_Average_1 : List IOper := [⟨(some 8), .mv (.k (.c (.sl none 0 0 false))), none⟩]
abbrev o_rotaref08_Clock_Average_2 : List IOper := [⟨(some 9), .mv (.k (.c (.int .i64 0))), none⟩]
abbrev o_rotaref08_Clock_Average_3 : List IOper := [⟨(some 11), .mv (.t 9), none⟩,
  ⟨(some 12), .mv (.t 0), none⟩,
  ⟨(some 13), .nilck (.t 12), none⟩,
  ⟨(some 14), .fa 0 (.t 13), none⟩,
  ⟨(some 15), .fa 0 (.t 14), none⟩,
  ⟨(some 16), .ld none (.t 15), none⟩,
  ⟨(some 17), .bin .lss (.t 11) (.t 16), none⟩]
abbrev o_rotaref08_Clock_Average_4 : List IOper := [⟨(some 20), .mv (.t 1), none⟩,
  ⟨(some 21), .mv (.t 9), none⟩,
  ⟨(some 22), .call (.k (.c (.fn fn_rotaref08_Is [] []))) [(.t 20), (.t 21)], none⟩,
  ⟨(some 10), .mv (.t 22), none⟩]
abbrev o_rotaref08_Clock_Average_5 : List IOper := [⟨(some 23), .mv (.t 10), none⟩,
  ⟨(some 24), .mv (.t 23), none⟩,
  ⟨(some 25), .mv (.t 9), some (24, true)⟩,
  ⟨(some 26), .mv (.t 2), some (24, true)⟩,
  ⟨(some 27), .bin .eql (.t 25) (.t 26), some (24, true)⟩,
  ⟨(some 28), .pick (.t 24) (.t 27) (.k (.c (.bool false))), none⟩]
abbrev o_rotaref08_Clock_Average_6 : List IOper := [⟨(some 29), .mv (.t 8), none⟩,
  ⟨(some 30), .bsl 3 1 [(.int .i64 0)] [(0, 1, (.k (.c (.int .i64 0))))], none⟩,
  ⟨(some 31), .app 3 1 8 (.t 29) (.t 30), none⟩,
  ⟨(some 8), .mv (.t 31), none⟩]
abbrev o_rotaref08_Clock_Average_7 : List IOper := [⟨(some 32), .mv (.t 10), none⟩,
  ⟨(some 33), .mv (.t 32), none⟩,
  ⟨(some 34), .mv (.t 0), some (33, true)⟩,
  ⟨(some 35), .nilck (.t 34), some (33, true)⟩,
  ⟨(some 36), .fa 14 (.t 35), some (33, true)⟩,
  ⟨(some 37), .ld none (.t 36), some (33, true)⟩,
  ⟨(some 38), .mv (.t 9), some (33, true)⟩,
  ⟨(some 39), .iaS 1 (.t 37) (.t 38), some (33, true)⟩,
  ⟨(some 40), .ld none (.t 39), some (33, true)⟩,
  ⟨(some 41), .pick (.t 33) (.t 40) (.k (.c (.bool false))), none⟩]
abbrev o_rotaref08_Clock_Average_8 : List IOper := [⟨(some 42), .mv (.t 8), none⟩,
  ⟨(some 43), .mv (.t 0), none⟩,
  ⟨(some 44), .nilck (.t 43), none⟩,
  ⟨(some 45), .fa 13 (.t 44), none⟩,
  ⟨(some 46), .ld none (.t 45), none⟩,
  ⟨(some 47), .mv (.t 9), none⟩,
  ⟨(some 48), .iaS 1 (.t 46) (.t 47), none⟩,
  ⟨(some 49), .ld none (.t 48), none⟩,
  ⟨(some 50), .bsl 3 1 [(.int .i64 0)] [(0, 1, (.t 49))], none⟩,
  ⟨(some 51), .app 3 1 8 (.t 42) (.t 50), none⟩,
  ⟨(some 8), .mv (.t 51), none⟩]
abbrev o_rotaref08_Clock_Average_9 : List IOper := [⟨(some 18), .mv (.t 9), none⟩,
  ⟨(some 19), .bin .add (.t 18) (.k (.c (.int .i64 1))), none⟩,
  ⟨(some 9), .mv (.t 19), none⟩]
def b_rotaref08_Clock_Average_10 : IC := (.seq (.seq (.ops o_rotaref08_Clock_Average_3) (.cond (.t 17) .skip (.exit 0))) (.seq (.block 1 (.seq (.ops o_rotaref08_Clock_Average_4) (.seq (.ops o_rotaref08_Clock_Average_5) (.cond (.t 28) (.ops o_rotaref08_Clock_Average_6) (.seq (.ops o_rotaref08_Clock_Average_7) (.cond (.t 41) (.ops o_rotaref08_Clock_Average_8) .skip)))))) (.ops o_rotaref08_Clock_Average_9)))
abbrev o_rotaref08_Clock_Average_11 : List IOper := [⟨(some 52), .mv (.t 8), none⟩,
  ⟨(some 53), .call (.k (.c (.fn fn_rotaref08_Middle [] []))) [(.t 52)], none⟩,
  ⟨(some 54), .ext (.t 53) 0, none⟩,
  ⟨(some 55), .ext (.t 53) 1, none⟩,
  ⟨(some 6), .mv (.t 54), none⟩,
  ⟨(some 7), .mv (.t 55), none⟩]
def c_rotaref08_Clock_Average : IC := (.seq (.ops o_rotaref08_Clock_Average_0) (.seq (.ops o_rotaref08_Clock_Average_1) (.seq (.seq (.ops o_rotaref08_Clock_Average_2) (.block 0 (.loop b_rotaref08_Clock_Average_10))) (.seq (.ops o_rotaref08_Clock_Average_11) .ret))))
def i_rotaref08_Clock_Average : IFn := ⟨56, c_rotaref08_Clock_Average, [(6, none), (7, none)]⟩

-- F 37 (*rota/rotaref08.Clock).Round: bads 0, calls [36, 53, 53]
abbrev o_rotaref08_Clock_Round_0 : List IOper := [⟨(some 6), .mv (.k (.c (.int .i64 0))), none⟩]
abbrev o_rotaref08_Clock_Round_1 : List IOper := [⟨(some 10), .mv (.t 0), none⟩,
  ⟨(some 11), .mv (.t 1), none⟩,
  ⟨(some 12), .mv (.t 2), none⟩,
  ⟨(some 13), .call (.k (.c (.fn fn_rotaref08_Clock_Average [] []))) [(.t 10), (.t 11), (.t 12)], none⟩,
  ⟨(some 9), .mv (.t 13), none⟩,
  ⟨(some 14), .ext (.t 9) 0, none⟩,
  ⟨(some 15), .ext (.t 9) 1, none⟩,
  ⟨(some 7), .mv (.t 14), none⟩,
  ⟨(some 8), .mv (.t 15), none⟩]
abbrev o_rotaref08_Clock_Round_2 : List IOper := [⟨(some 16), .mv (.t 7), none⟩,
  ⟨(some 17), .mv (.t 0), none⟩,
  ⟨(some 18), .nilck (.t 17), none⟩,
  ⟨(some 19), .fa 0 (.t 18), none⟩,
  ⟨(some 20), .fa 5 (.t 19), none⟩,
  ⟨(some 21), .ld none (.t 20), none⟩,
  ⟨(some 22), .call (.k (.c (.fn fn_rotaref08_Cut [] []))) [(.t 16), (.t 21)], none⟩,
  ⟨(some 7), .mv (.t 22), none⟩]
abbrev o_rotaref08_Clock_Round_3 : List IOper := [⟨(some 23), .mv (.t 0), none⟩,
  ⟨(some 24), .mv (.t 0), none⟩,
  ⟨(some 25), .nilck (.t 24), none⟩,
  ⟨(some 26), .fa 12 (.t 25), none⟩,
  ⟨(some 27), .ld none (.t 26), none⟩,
  ⟨(some 28), .mv (.t 7), none⟩,
  ⟨(some 29), .bin .add (.t 27) (.t 28), none⟩,
  ⟨(some 30), .call (.k (.c (.fn fn_rotaref08_Cut [] []))) [(.t 29), (.k (.c (.int .i64 1099511627776)))], none⟩,
  ⟨(some 31), .nilck (.t 23), none⟩,
  ⟨(some 32), .fa 12 (.t 31), none⟩,
  ⟨none, .st 1 (.t 32) (.t 30), none⟩]
abbrev o_rotaref08_Clock_Round_4 : List IOper := [⟨(some 33), .mv (.t 0), none⟩,
  ⟨(some 34), .mv (.t 0), none⟩,
  ⟨(some 35), .nilck (.t 34), none⟩,
  ⟨(some 36), .fa 0 (.t 35), none⟩,
  ⟨(some 37), .fa 0 (.t 36), none⟩,
  ⟨(some 38), .ld none (.t 37), none⟩,
  ⟨(some 39), .mksl 4 1 1 [(.bool false)] (.t 38) (.t 38), none⟩,
  ⟨(some 40), .nilck (.t 33), none⟩,
  ⟨(some 41), .fa 14 (.t 40), none⟩,
  ⟨none, .st 1 (.t 41) (.t 39), none⟩]
abbrev o_rotaref08_Clock_Round_5 : List IOper := [⟨(some 42), .mv (.t 7), none⟩,
  ⟨(some 6), .mv (.t 42), none⟩]
def c_rotaref08_Clock_Round : IC := (.seq (.ops o_rotaref08_Clock_Round_0) (.seq (.ops o_rotaref08_Clock_Round_1) (.seq (.ops o_rotaref08_Clock_Round_2) (.seq (.ops o_rotaref08_Clock_Round_3) (.seq (.ops o_rotaref08_Clock_Round_4) (.seq (.ops o_rotaref08_Clock_Round_5) .ret))))))
def i_rotaref08_Clock_Round : IFn := ⟨43, c_rotaref08_Clock_Round, [(6, none)]⟩

-- F 38 rota/config.nodes: bads 0, calls [56, 57]
abbrev o_config_nodes_0 : List IOper := [⟨(some 1), .box 28 (.t 0), none⟩,
  ⟨(some 2), .mv (.k (.c (.bool false))), none⟩]
abbrev o_config_nodes_1 : List IOper := [⟨(some 4), .fa 0 (.t 1), none⟩,
  ⟨(some 5), .ld none (.t 4), none⟩,
  ⟨(some 6), .call (.k (.c (.fn fn_config_within [] []))) [(.t 5), (.k (.c (.int .i64 4))), (.k (.c (.int .i64 16)))], none⟩,
  ⟨(some 7), .un .not (.t 6), none⟩,
  ⟨(some 8), .mv (.t 7), none⟩,
  ⟨(some 9), .fa 1 (.t 1), some (8, false)⟩,
  ⟨(some 10), .ld none (.t 9), some (8, false)⟩,
  ⟨(some 11), .len false (.t 10), some (8, false)⟩,
  ⟨(some 12), .fa 0 (.t 1), some (8, false)⟩,
  ⟨(some 13), .ld none (.t 12), some (8, false)⟩,
  ⟨(some 14), .bin .neq (.t 11) (.t 13), some (8, false)⟩,
  ⟨(some 15), .pick (.t 8) (.k (.c (.bool true))) (.t 14), none⟩]
abbrev o_config_nodes_2 : List IOper := [⟨(some 2), .mv (.k (.c (.bool false))), none⟩]
abbrev o_config_nodes_3 : List IOper := [⟨(some 16), .fa 0 (.t 1), none⟩,
  ⟨(some 17), .ld none (.t 16), none⟩,
  ⟨(some 18), .mv (.k (.c (.int .i64 0))), none⟩]
abbrev o_config_nodes_4 : List IOper := [⟨(some 19), .bin .lss (.t 18) (.t 17), none⟩]
abbrev o_config_nodes_5 : List IOper := [⟨(some 20), .mv (.t 18), none⟩,
  ⟨(some 3), .mv (.t 20), none⟩]
abbrev o_config_nodes_6 : List IOper := [⟨(some 21), .fa 1 (.t 1), none⟩,
  ⟨(some 22), .ld none (.t 21), none⟩,
  ⟨(some 23), .mv (.t 3), none⟩,
  ⟨(some 24), .call (.k (.c (.fn fn_slices_Contains_int_int [] []))) [(.t 22), (.t 23)], none⟩,
  ⟨(some 25), .un .not (.t 24), none⟩]
abbrev o_config_nodes_7 : List IOper := [⟨(some 2), .mv (.k (.c (.bool false))), none⟩]
abbrev o_config_nodes_8 : List IOper := [⟨(some 26), .bin .add (.t 18) (.k (.c (.int .i64 1))), none⟩,
  ⟨(some 18), .mv (.t 26), none⟩]
def b_config_nodes_9 : IC := (.seq (.ops o_config_nodes_4) (.seq (.cond (.t 19) .skip (.exit 0)) (.seq (.block 1 (.seq (.ops o_config_nodes_5) (.seq (.ops o_config_nodes_6) (.cond (.t 25) (.seq (.ops o_config_nodes_7) .ret) .skip)))) (.ops o_config_nodes_8))))
abbrev o_config_nodes_10 : List IOper := [⟨(some 2), .mv (.k (.c (.bool true))), none⟩]
def c_config_nodes : IC := (.seq (.ops o_config_nodes_0) (.seq (.seq (.ops o_config_nodes_1) (.cond (.t 15) (.seq (.ops o_config_nodes_2) .ret) .skip)) (.seq (.seq (.ops o_config_nodes_3) (.block 0 (.loop b_config_nodes_9))) (.seq (.ops o_config_nodes_10) .ret))))
def i_config_nodes : IFn := ⟨27, c_config_nodes, [(2, none)]⟩

-- F 39 rota/config.clocks: bads 0, calls [56, 56, 9, 56, 56, 56, 56]
abbrev o_config_clocks_0 : List IOper := [⟨(some 1), .box 28 (.t 0), none⟩,
  ⟨(some 2), .mv (.k (.c (.bool false))), none⟩]
abbrev o_config_clocks_1 : List IOper := [⟨(some 4), .fa 2 (.t 1), none⟩,
  ⟨(some 5), .ld none (.t 4), none⟩,
  ⟨(some 6), .call (.k (.c (.fn fn_config_within [] []))) [(.t 5), (.k (.c (.int .i64 0))), (.k (.c (.int .i64 1048576)))], none⟩,
  ⟨(some 7), .un .not (.t 6), none⟩,
  ⟨(some 8), .mv (.t 7), none⟩,
  ⟨(some 9), .fa 3 (.t 1), some (8, false)⟩,
  ⟨(some 10), .ld none (.t 9), some (8, false)⟩,
  ⟨(some 11), .call (.k (.c (.fn fn_config_within [] []))) [(.t 10), (.k (.c (.int .i64 0))), (.k (.c (.int .i64 1048576)))], some (8, false)⟩,
  ⟨(some 12), .un .not (.t 11), some (8, false)⟩,
  ⟨(some 13), .pick (.t 8) (.k (.c (.bool true))) (.t 12), none⟩]
abbrev o_config_clocks_2 : List IOper := [⟨(some 2), .mv (.k (.c (.bool false))), none⟩]
abbrev o_config_clocks_3 : List IOper := [⟨(some 17), .fa 3 (.t 1), none⟩,
  ⟨(some 18), .ld none (.t 17), none⟩,
  ⟨(some 14), .ld (some 12) (.t 1), none⟩,
  ⟨(some 15), .call (.k (.c (.fn fn_config_Precision [] []))) [(.t 14)], none⟩,
  ⟨none, .same (some none) (.t 17) (.t 18), none⟩,
  ⟨(some 16), .bin .mul (.k (.c (.int .i64 2))) (.t 15), none⟩,
  ⟨(some 19), .bin .add (.t 16) (.t 18), none⟩,
  ⟨(some 3), .mv (.t 19), none⟩]
abbrev o_config_clocks_4 : List IOper := [⟨(some 20), .fa 4 (.t 1), none⟩,
  ⟨(some 21), .ld none (.t 20), none⟩,
  ⟨(some 22), .mv (.t 3), none⟩,
  ⟨(some 23), .call (.k (.c (.fn fn_config_within [] []))) [(.t 21), (.t 22), (.k (.c (.int .i64 16777216)))], none⟩,
  ⟨(some 24), .mv (.t 23), none⟩,
  ⟨(some 25), .fa 5 (.t 1), some (24, true)⟩,
  ⟨(some 26), .ld none (.t 25), some (24, true)⟩,
  ⟨(some 27), .mv (.t 3), some (24, true)⟩,
  ⟨(some 28), .call (.k (.c (.fn fn_config_within [] []))) [(.t 26), (.t 27), (.k (.c (.int .i64 16777216)))], some (24, true)⟩,
  ⟨(some 29), .pick (.t 24) (.t 28) (.k (.c (.bool false))), none⟩,
  ⟨(some 30), .mv (.t 29), none⟩,
  ⟨(some 31), .fa 6 (.t 1), some (30, true)⟩,
  ⟨(some 32), .ld none (.t 31), some (30, true)⟩,
  ⟨(some 33), .call (.k (.c (.fn fn_config_within [] []))) [(.t 32), (.k (.c (.int .i64 1))), (.k (.c (.int .i64 8)))], some (30, true)⟩,
  ⟨(some 34), .pick (.t 30) (.t 33) (.k (.c (.bool false))), none⟩,
  ⟨(some 35), .mv (.t 34), none⟩,
  ⟨(some 36), .fa 7 (.t 1), some (35, true)⟩,
  ⟨(some 37), .ld none (.t 36), some (35, true)⟩,
  ⟨(some 38), .call (.k (.c (.fn fn_config_within [] []))) [(.t 37), (.k (.c (.int .i64 1))), (.k (.c (.int .i64 16)))], some (35, true)⟩,
  ⟨(some 39), .pick (.t 35) (.t 38) (.k (.c (.bool false))), none⟩,
  ⟨(some 2), .mv (.t 39), none⟩]
def c_config_clocks : IC := (.seq (.ops o_config_clocks_0) (.seq (.seq (.ops o_config_clocks_1) (.cond (.t 13) (.seq (.ops o_config_clocks_2) .ret) .skip)) (.seq (.ops o_config_clocks_3) (.seq (.ops o_config_clocks_4) .ret))))
def i_config_clocks : IFn := ⟨40, c_config_clocks, [(2, none)]⟩

-- F 40 rota/config.parts: bads 0, calls [56, 56, 58, 59]
abbrev o_config_parts_0 : List IOper := [⟨(some 1), .box 28 (.t 0), none⟩,
  ⟨(some 2), .new 4 (.c (.bool false)), none⟩]
abbrev o_config_parts_1 : List IOper := [⟨(some 9), .fa 8 (.t 1), none⟩,
  ⟨(some 10), .ld none (.t 9), none⟩,
  ⟨(some 11), .len false (.t 10), none⟩,
  ⟨(some 12), .bin .gtr (.t 11) (.k (.c (.int .i64 32))), none⟩]
abbrev o_config_parts_2 : List IOper := [⟨none, .st 1 (.t 2) (.k (.c (.bool false))), none⟩]
abbrev o_config_parts_3 : List IOper := [⟨(some 13), .fa 8 (.t 1), none⟩,
  ⟨(some 14), .ld none (.t 13), none⟩,
  ⟨(some 15), .len false (.t 14), none⟩,
  ⟨(some 16), .mv (.k (.c (.int .i64 0))), none⟩]
abbrev o_config_parts_4 : List IOper := [⟨(some 17), .bin .lss (.t 16) (.t 15), none⟩]
abbrev o_config_parts_5 : List IOper := [⟨(some 18), .iaS 3 (.t 14) (.t 16), none⟩,
  ⟨(some 19), .ld (some 3) (.t 18), none⟩,
  ⟨(some 4), .new 85 (.agg [(.int .i64 0), (.int .i64 0), (.int .i64 0)]), none⟩,
  ⟨none, .st 3 (.t 4) (.t 19), none⟩]
abbrev o_config_parts_6 : List IOper := [⟨(some 20), .fa 0 (.t 4), none⟩,
  ⟨(some 21), .ld none (.t 20), none⟩,
  ⟨(some 22), .fa 0 (.t 1), none⟩,
  ⟨(some 23), .ld none (.t 22), none⟩,
  ⟨(some 24), .bin .sub (.t 23) (.k (.c (.int .i64 1))), none⟩,
  ⟨(some 25), .call (.k (.c (.fn fn_config_within [] []))) [(.t 21), (.k (.c (.int .i64 0))), (.t 24)], none⟩,
  ⟨(some 26), .un .not (.t 25), none⟩,
  ⟨(some 27), .mv (.t 26), none⟩,
  ⟨(some 28), .fa 1 (.t 4), some (27, false)⟩,
  ⟨(some 29), .ld none (.t 28), some (27, false)⟩,
  ⟨(some 30), .fa 2 (.t 4), some (27, false)⟩,
  ⟨(some 31), .ld none (.t 30), some (27, false)⟩,
  ⟨(some 32), .call (.k (.c (.fn fn_config_within [] []))) [(.t 29), (.k (.c (.int .i64 0))), (.t 31)], some (27, false)⟩,
  ⟨(some 33), .un .not (.t 32), some (27, false)⟩,
  ⟨(some 34), .pick (.t 27) (.k (.c (.bool true))) (.t 33), none⟩,
  ⟨(some 35), .mv (.t 34), none⟩,
  ⟨(some 36), .fa 2 (.t 4), some (35, false)⟩,
  ⟨(some 37), .ld none (.t 36), some (35, false)⟩,
  ⟨(some 38), .bin .gtr (.t 37) (.k (.c (.int .i64 256))), some (35, false)⟩,
  ⟨(some 39), .pick (.t 35) (.k (.c (.bool true))) (.t 38), none⟩]
abbrev o_config_parts_7 : List IOper := [⟨none, .st 1 (.t 2) (.k (.c (.bool false))), none⟩]
abbrev o_config_parts_8 : List IOper := [⟨(some 40), .bin .add (.t 16) (.k (.c (.int .i64 1))), none⟩,
  ⟨(some 16), .mv (.t 40), none⟩]
def b_config_parts_9 : IC := (.seq (.ops o_config_parts_4) (.seq (.cond (.t 17) .skip (.exit 0)) (.seq (.block 1 (.seq (.ops o_config_parts_5) (.seq (.ops o_config_parts_6) (.cond (.t 39) (.seq (.ops o_config_parts_7) .ret) .skip)))) (.ops o_config_parts_8))))
abbrev o_config_parts_10 : List IOper := [⟨(some 41), .fa 8 (.t 1), none⟩,
  ⟨(some 42), .ld none (.t 41), none⟩,
  ⟨(some 43), .len false (.t 42), none⟩,
  ⟨(some 44), .call (.k (.c (.fn fn_config_pairs [] []))) [(.t 43)], none⟩]
abbrev o_config_parts_11 : List IOper := [⟨(some 5), .mv (.t 45), none⟩]
abbrev o_config_parts_12 : List IOper := [⟨(some 6), .mv (.t 46), none⟩]
abbrev o_config_parts_13 : List IOper := [⟨(some 54), .mv (.t 6), none⟩,
  ⟨(some 52), .fa 8 (.t 1), none⟩,
  ⟨(some 53), .ld none (.t 52), none⟩,
  ⟨(some 55), .iaS 3 (.t 53) (.t 54), none⟩,
  ⟨(some 56), .ld (some 3) (.t 55), none⟩,
  ⟨(some 49), .mv (.t 5), none⟩,
  ⟨(some 47), .fa 8 (.t 1), none⟩,
  ⟨(some 48), .ld none (.t 47), none⟩,
  ⟨(some 50), .iaS 3 (.t 48) (.t 49), none⟩,
  ⟨(some 51), .ld (some 3) (.t 50), none⟩,
  ⟨(some 7), .new 85 (.agg [(.int .i64 0), (.int .i64 0), (.int .i64 0)]), none⟩,
  ⟨(some 8), .new 85 (.agg [(.int .i64 0), (.int .i64 0), (.int .i64 0)]), none⟩,
  ⟨none, .st 3 (.t 7) (.t 51), none⟩,
  ⟨none, .same (some none) (.t 52) (.t 53), none⟩,
  ⟨none, .same (some (some 3)) (.t 55) (.t 56), none⟩,
  ⟨none, .st 3 (.t 8) (.t 56), none⟩]
abbrev o_config_parts_14 : List IOper := [⟨(some 57), .fa 0 (.t 7), none⟩,
  ⟨(some 58), .ld none (.t 57), none⟩,
  ⟨(some 59), .fa 0 (.t 8), none⟩,
  ⟨(some 60), .ld none (.t 59), none⟩,
  ⟨(some 61), .bin .eql (.t 58) (.t 60), none⟩,
  ⟨(some 62), .mv (.t 61), none⟩,
  ⟨(some 63), .fa 1 (.t 7), some (62, true)⟩,
  ⟨(some 64), .ld none (.t 63), some (62, true)⟩,
  ⟨(some 65), .fa 2 (.t 7), some (62, true)⟩,
  ⟨(some 66), .ld none (.t 65), some (62, true)⟩,
  ⟨(some 67), .fa 1 (.t 8), some (62, true)⟩,
  ⟨(some 68), .ld none (.t 67), some (62, true)⟩,
  ⟨(some 69), .fa 2 (.t 8), some (62, true)⟩,
  ⟨(some 70), .ld none (.t 69), some (62, true)⟩,
  ⟨(some 71), .call (.k (.c (.fn fn_config_meet [] []))) [(.t 64), (.t 66), (.t 68), (.t 70)], some (62, true)⟩,
  ⟨(some 72), .pick (.t 62) (.t 71) (.k (.c (.bool false))), none⟩]
abbrev o_config_parts_15 : List IOper := [⟨none, .st 1 (.t 2) (.k (.c (.bool false))), none⟩]
def a_config_parts_16 : IC := (.seq (.ops o_config_parts_11) (.ops o_config_parts_12))
def b_config_parts_17 : IC := (.block 3 (.seq (.ops o_config_parts_13) (.seq (.ops o_config_parts_14) (.cond (.t 72) (.seq (.ops o_config_parts_15) .ret) .skip))))
abbrev o_config_parts_18 : List IOper := [⟨none, .st 1 (.t 2) (.k (.c (.bool true))), none⟩]
def c_config_parts : IC := (.seq (.ops o_config_parts_0) (.seq (.seq (.ops o_config_parts_1) (.cond (.t 12) (.seq (.ops o_config_parts_2) .ret) .skip)) (.seq (.seq (.ops o_config_parts_3) (.block 0 (.loop b_config_parts_9))) (.seq (.seq (.ops o_config_parts_10) (.block 2 (.rangeF (.t 44) [45, 46] a_config_parts_16 b_config_parts_17))) (.seq (.ops o_config_parts_18) .ret)))))
def i_config_parts : IFn := ⟨73, c_config_parts, [(2, (some none))]⟩

-- F 41 rota/config.windows: bads 0, calls [56]
abbrev o_config_windows_0 : List IOper := [⟨(some 1), .box 28 (.t 0), none⟩,
  ⟨(some 2), .mv (.k (.c (.bool false))), none⟩]
abbrev o_config_windows_1 : List IOper := [⟨(some 7), .fa 9 (.t 1), none⟩,
  ⟨(some 8), .ld none (.t 7), none⟩,
  ⟨(some 9), .len false (.t 8), none⟩,
  ⟨(some 10), .fa 0 (.t 1), none⟩,
  ⟨(some 11), .ld none (.t 10), none⟩,
  ⟨(some 12), .bin .neq (.t 9) (.t 11), none⟩]
abbrev o_config_windows_2 : List IOper := [⟨(some 2), .mv (.k (.c (.bool false))), none⟩]
abbrev o_config_windows_3 : List IOper := [⟨(some 13), .fa 9 (.t 1), none⟩,
  ⟨(some 14), .ld none (.t 13), none⟩,
  ⟨(some 15), .len false (.t 14), none⟩,
  ⟨(some 16), .mv (.k (.c (.int .i64 0))), none⟩]
abbrev o_config_windows_4 : List IOper := [⟨(some 17), .bin .lss (.t 16) (.t 15), none⟩]
abbrev o_config_windows_5 : List IOper := [⟨(some 18), .mv (.t 16), none⟩,
  ⟨(some 19), .iaS 1 (.t 14) (.t 16), none⟩,
  ⟨(some 20), .ld none (.t 19), none⟩,
  ⟨(some 3), .mv (.t 18), none⟩,
  ⟨(some 4), .mv (.t 20), none⟩]
abbrev o_config_windows_6 : List IOper := [⟨(some 21), .mv (.t 4), none⟩,
  ⟨(some 22), .len false (.t 21), none⟩,
  ⟨(some 23), .fa 0 (.t 1), none⟩,
  ⟨(some 24), .ld none (.t 23), none⟩,
  ⟨(some 25), .bin .neq (.t 22) (.t 24), none⟩]
abbrev o_config_windows_7 : List IOper := [⟨(some 2), .mv (.k (.c (.bool false))), none⟩]
abbrev o_config_windows_8 : List IOper := [⟨(some 26), .mv (.t 4), none⟩,
  ⟨(some 27), .len false (.t 26), none⟩,
  ⟨(some 28), .mv (.k (.c (.int .i64 0))), none⟩]
abbrev o_config_windows_9 : List IOper := [⟨(some 29), .bin .lss (.t 28) (.t 27), none⟩]
abbrev o_config_windows_10 : List IOper := [⟨(some 30), .iaS 1 (.t 26) (.t 28), none⟩,
  ⟨(some 31), .ld none (.t 30), none⟩,
  ⟨(some 6), .mv (.t 31), none⟩]
abbrev o_config_windows_11 : List IOper := [⟨(some 32), .mv (.t 6), none⟩,
  ⟨(some 33), .bin .neq (.t 32) (.k (.c (.int .i64 (-1)))), none⟩,
  ⟨(some 34), .mv (.t 33), none⟩,
  ⟨(some 35), .mv (.t 6), some (34, true)⟩,
  ⟨(some 36), .fa 8 (.t 1), some (34, true)⟩,
  ⟨(some 37), .ld none (.t 36), some (34, true)⟩,
  ⟨(some 38), .len false (.t 37), some (34, true)⟩,
  ⟨(some 39), .bin .sub (.t 38) (.k (.c (.int .i64 1))), some (34, true)⟩,
  ⟨(some 40), .call (.k (.c (.fn fn_config_within [] []))) [(.t 35), (.k (.c (.int .i64 0))), (.t 39)], some (34, true)⟩,
  ⟨(some 41), .un .not (.t 40), some (34, true)⟩,
  ⟨(some 42), .mv (.t 41), some (34, true)⟩,
  ⟨(some 43), .fa 8 (.t 1), some (42, false)⟩,
  ⟨(some 44), .ld none (.t 43), some (42, false)⟩,
  ⟨(some 45), .mv (.t 6), some (42, false)⟩,
  ⟨(some 46), .iaS 3 (.t 44) (.t 45), some (42, false)⟩,
  ⟨(some 47), .fa 0 (.t 46), some (42, false)⟩,
  ⟨(some 48), .ld none (.t 47), some (42, false)⟩,
  ⟨(some 49), .mv (.t 3), some (42, false)⟩,
  ⟨(some 50), .bin .neq (.t 48) (.t 49), some (42, false)⟩,
  ⟨(some 51), .pick (.t 42) (.k (.c (.bool true))) (.t 50), some (34, true)⟩,
  ⟨(some 52), .pick (.t 34) (.t 51) (.k (.c (.bool false))), none⟩]
abbrev o_config_windows_12 : List IOper := [⟨(some 2), .mv (.k (.c (.bool false))), none⟩]
abbrev o_config_windows_13 : List IOper := [⟨(some 53), .bin .add (.t 28) (.k (.c (.int .i64 1))), none⟩,
  ⟨(some 28), .mv (.t 53), none⟩]
def b_config_windows_14 : IC := (.seq (.ops o_config_windows_9) (.seq (.cond (.t 29) .skip (.exit 2)) (.seq (.block 3 (.seq (.ops o_config_windows_10) (.seq (.ops o_config_windows_11) (.cond (.t 52) (.seq (.ops o_config_windows_12) .ret) .skip)))) (.ops o_config_windows_13))))
abbrev o_config_windows_15 : List IOper := [⟨(some 54), .bin .add (.t 16) (.k (.c (.int .i64 1))), none⟩,
  ⟨(some 16), .mv (.t 54), none⟩]
def b_config_windows_16 : IC := (.seq (.ops o_config_windows_4) (.seq (.cond (.t 17) .skip (.exit 0)) (.seq (.block 1 (.seq (.ops o_config_windows_5) (.seq (.seq (.ops o_config_windows_6) (.cond (.t 25) (.seq (.ops o_config_windows_7) .ret) .skip)) (.seq (.ops o_config_windows_8) (.block 2 (.loop b_config_windows_14)))))) (.ops o_config_windows_15))))
abbrev o_config_windows_17 : List IOper := [⟨(some 2), .mv (.k (.c (.bool true))), none⟩]
def c_config_windows : IC := (.seq (.ops o_config_windows_0) (.seq (.seq (.ops o_config_windows_1) (.cond (.t 12) (.seq (.ops o_config_windows_2) .ret) .skip)) (.seq (.seq (.ops o_config_windows_3) (.block 0 (.loop b_config_windows_16))) (.seq (.ops o_config_windows_17) .ret))))
def i_config_windows : IFn := ⟨55, c_config_windows, [(2, none)]⟩

-- F 42 rota/config.ports: bads 0, calls [56, 56, 56]
abbrev o_config_ports_0 : List IOper := [⟨(some 1), .box 28 (.t 0), none⟩,
  ⟨(some 2), .mv (.k (.c (.bool false))), none⟩]
abbrev o_config_ports_1 : List IOper := [⟨(some 7), .fa 10 (.t 1), none⟩,
  ⟨(some 8), .ld none (.t 7), none⟩,
  ⟨(some 9), .len false (.t 8), none⟩,
  ⟨(some 10), .bin .gtr (.t 9) (.k (.c (.int .i64 64))), none⟩]
abbrev o_config_ports_2 : List IOper := [⟨(some 2), .mv (.k (.c (.bool false))), none⟩]
abbrev o_config_ports_3 : List IOper := [⟨(some 11), .fa 10 (.t 1), none⟩,
  ⟨(some 12), .ld none (.t 11), none⟩,
  ⟨(some 13), .len false (.t 12), none⟩,
  ⟨(some 14), .mv (.k (.c (.int .i64 0))), none⟩]
abbrev o_config_ports_4 : List IOper := [⟨(some 15), .bin .lss (.t 14) (.t 13), none⟩]
abbrev o_config_ports_5 : List IOper := [⟨(some 16), .iaS 6 (.t 12) (.t 14), none⟩,
  ⟨(some 17), .ld (some 6) (.t 16), none⟩,
  ⟨(some 4), .new 91 (.agg (List.replicate 6 (.int .i64 0))), none⟩,
  ⟨none, .st 6 (.t 4) (.t 17), none⟩]
abbrev o_config_ports_6 : List IOper := [⟨(some 5), .mv (.k (.c (.int .i64 0))), none⟩,
  ⟨(some 6), .mv (.k (.c (.int .i64 0))), none⟩]
abbrev o_config_ports_7 : List IOper := [⟨(some 19), .fa 1 (.t 4), none⟩,
  ⟨(some 20), .ld none (.t 19), none⟩,
  ⟨(some 21), .bin .eql (.t 20) (.k (.c (.int .i64 2))), none⟩,
  ⟨(some 18), .mv (.t 21), none⟩]
abbrev o_config_ports_8 : List IOper := [⟨(some 22), .fa 4 (.t 4), none⟩,
  ⟨(some 23), .ld none (.t 22), none⟩,
  ⟨(some 24), .mn (.t 23) [(.k (.c (.int .i64 8)))], none⟩,
  ⟨(some 25), .mx (.k (.c (.int .i64 1))) [(.t 24)], none⟩,
  ⟨(some 5), .mv (.t 25), none⟩]
abbrev o_config_ports_9 : List IOper := [⟨(some 27), .fa 1 (.t 4), none⟩,
  ⟨(some 28), .ld none (.t 27), none⟩,
  ⟨(some 29), .bin .eql (.t 28) (.k (.c (.int .i64 1))), none⟩,
  ⟨(some 30), .mv (.t 29), none⟩,
  ⟨(some 31), .fa 2 (.t 4), some (30, true)⟩,
  ⟨(some 32), .ld none (.t 31), some (30, true)⟩,
  ⟨(some 33), .bin .eql (.t 32) (.k (.c (.int .i64 2))), some (30, true)⟩,
  ⟨(some 34), .pick (.t 30) (.t 33) (.k (.c (.bool false))), none⟩,
  ⟨(some 26), .mv (.t 34), none⟩]
abbrev o_config_ports_10 : List IOper := [⟨(some 35), .fa 5 (.t 4), none⟩,
  ⟨(some 36), .ld none (.t 35), none⟩,
  ⟨(some 37), .mn (.t 36) [(.k (.c (.int .i64 65535)))], none⟩,
  ⟨(some 38), .mx (.k (.c (.int .i64 1))) [(.t 37)], none⟩,
  ⟨(some 6), .mv (.t 38), none⟩]
abbrev o_config_ports_11 : List IOper := [⟨(some 40), .fa 1 (.t 4), none⟩,
  ⟨(some 41), .ld none (.t 40), none⟩,
  ⟨(some 42), .bin .neq (.t 41) (.k (.c (.int .i64 1))), none⟩,
  ⟨(some 39), .mv (.t 42), none⟩]
abbrev o_config_ports_12 : List IOper := [⟨(some 2), .mv (.k (.c (.bool false))), none⟩]
abbrev o_config_ports_13 : List IOper := [⟨(some 43), .fa 0 (.t 4), none⟩,
  ⟨(some 44), .ld none (.t 43), none⟩,
  ⟨(some 45), .fa 8 (.t 1), none⟩,
  ⟨(some 46), .ld none (.t 45), none⟩,
  ⟨(some 47), .len false (.t 46), none⟩,
  ⟨(some 48), .bin .sub (.t 47) (.k (.c (.int .i64 1))), none⟩,
  ⟨(some 49), .call (.k (.c (.fn fn_config_within [] []))) [(.t 44), (.k (.c (.int .i64 0))), (.t 48)], none⟩,
  ⟨(some 50), .un .not (.t 49), none⟩,
  ⟨(some 51), .mv (.t 50), none⟩,
  ⟨(some 52), .fa 2 (.t 4), some (51, false)⟩,
  ⟨(some 53), .ld none (.t 52), some (51, false)⟩,
  ⟨(some 54), .call (.k (.c (.fn fn_config_within [] []))) [(.t 53), (.k (.c (.int .i64 1))), (.k (.c (.int .i64 2)))], some (51, false)⟩,
  ⟨(some 55), .un .not (.t 54), some (51, false)⟩,
  ⟨(some 56), .pick (.t 51) (.k (.c (.bool true))) (.t 55), none⟩,
  ⟨(some 57), .mv (.t 56), none⟩,
  ⟨(some 58), .fa 3 (.t 4), some (57, false)⟩,
  ⟨(some 59), .ld none (.t 58), some (57, false)⟩,
  ⟨(some 60), .call (.k (.c (.fn fn_config_within [] []))) [(.t 59), (.k (.c (.int .i64 1))), (.k (.c (.int .i64 32)))], some (57, false)⟩,
  ⟨(some 61), .un .not (.t 60), some (57, false)⟩,
  ⟨(some 62), .pick (.t 57) (.k (.c (.bool true))) (.t 61), none⟩,
  ⟨(some 63), .mv (.t 62), none⟩,
  ⟨(some 64), .fa 4 (.t 4), some (63, false)⟩,
  ⟨(some 65), .ld none (.t 64), some (63, false)⟩,
  ⟨(some 66), .mv (.t 5), some (63, false)⟩,
  ⟨(some 67), .bin .neq (.t 65) (.t 66), some (63, false)⟩,
  ⟨(some 68), .pick (.t 63) (.k (.c (.bool true))) (.t 67), none⟩,
  ⟨(some 69), .mv (.t 68), none⟩,
  ⟨(some 70), .fa 5 (.t 4), some (69, false)⟩,
  ⟨(some 71), .ld none (.t 70), some (69, false)⟩,
  ⟨(some 72), .mv (.t 6), some (69, false)⟩,
  ⟨(some 73), .bin .neq (.t 71) (.t 72), some (69, false)⟩,
  ⟨(some 74), .pick (.t 69) (.k (.c (.bool true))) (.t 73), none⟩]
abbrev o_config_ports_14 : List IOper := [⟨(some 2), .mv (.k (.c (.bool false))), none⟩]
abbrev o_config_ports_15 : List IOper := [⟨(some 75), .bin .add (.t 14) (.k (.c (.int .i64 1))), none⟩,
  ⟨(some 14), .mv (.t 75), none⟩]
def b_config_ports_16 : IC := (.seq (.ops o_config_ports_4) (.seq (.cond (.t 15) .skip (.exit 0)) (.seq (.block 1 (.seq (.ops o_config_ports_5) (.seq (.ops o_config_ports_6) (.seq (.block 2 (.seq (.ops o_config_ports_7) (.cond (.t 18) (.ops o_config_ports_8) (.seq (.ops o_config_ports_9) (.cond (.t 26) (.ops o_config_ports_10) (.seq (.ops o_config_ports_11) (.cond (.t 39) (.seq (.ops o_config_ports_12) .ret) .skip))))))) (.seq (.ops o_config_ports_13) (.cond (.t 74) (.seq (.ops o_config_ports_14) .ret) .skip)))))) (.ops o_config_ports_15))))
abbrev o_config_ports_17 : List IOper := [⟨(some 2), .mv (.k (.c (.bool true))), none⟩]
def c_config_ports : IC := (.seq (.ops o_config_ports_0) (.seq (.seq (.ops o_config_ports_1) (.cond (.t 10) (.seq (.ops o_config_ports_2) .ret) .skip)) (.seq (.seq (.ops o_config_ports_3) (.block 0 (.loop b_config_ports_16))) (.seq (.ops o_config_ports_17) .ret))))
def i_config_ports : IFn := ⟨76, c_config_ports, [(2, none)]⟩

-- F 43 rota/config.links: bads 0, calls [60, 56, 60, 58, 59]
abbrev o_config_links_0 : List IOper := [⟨(some 1), .box 28 (.t 0), none⟩,
  ⟨(some 2), .new 4 (.c (.bool false)), none⟩]
abbrev o_config_links_1 : List IOper := [⟨(some 18), .fa 11 (.t 1), none⟩,
  ⟨(some 19), .ld none (.t 18), none⟩,
  ⟨(some 20), .len false (.t 19), none⟩,
  ⟨(some 21), .bin .gtr (.t 20) (.k (.c (.int .i64 64))), none⟩]
abbrev o_config_links_2 : List IOper := [⟨none, .st 1 (.t 2) (.k (.c (.bool false))), none⟩]
abbrev o_config_links_3 : List IOper := [⟨(some 22), .fa 10 (.t 1), none⟩,
  ⟨(some 23), .ld none (.t 22), none⟩,
  ⟨(some 24), .len false (.t 23), none⟩,
  ⟨(some 25), .mksl 3 1 8 [(.int .i64 0)] (.t 24) (.t 24), none⟩,
  ⟨(some 3), .mv (.t 25), none⟩]
abbrev o_config_links_4 : List IOper := [⟨(some 26), .fa 11 (.t 1), none⟩,
  ⟨(some 27), .ld none (.t 26), none⟩,
  ⟨(some 28), .len false (.t 27), none⟩,
  ⟨(some 29), .mv (.k (.c (.int .i64 0))), none⟩]
abbrev o_config_links_5 : List IOper := [⟨(some 30), .bin .lss (.t 29) (.t 28), none⟩]
abbrev o_config_links_6 : List IOper := [⟨(some 31), .iaS 3 (.t 27) (.t 29), none⟩,
  ⟨(some 32), .ld (some 3) (.t 31), none⟩,
  ⟨(some 5), .new 93 (.agg [(.int .i64 0), (.sl none 0 0 false), (.int .i64 0)]), none⟩,
  ⟨none, .st 3 (.t 5) (.t 32), none⟩]
abbrev o_config_links_7 : List IOper := [⟨(some 34), .ld (some 12) (.t 1), none⟩,
  ⟨(some 35), .fa 0 (.t 5), none⟩,
  ⟨(some 36), .ld none (.t 35), none⟩,
  ⟨(some 37), .call (.k (.c (.fn fn_config_port [] []))) [(.t 34), (.t 36)], none⟩,
  ⟨(some 33), .mv (.t 37), none⟩,
  ⟨(some 38), .ext (.t 33) 0, none⟩,
  ⟨(some 39), .ext (.t 33) 1, none⟩,
  ⟨(some 6), .new 91 (.agg (List.replicate 6 (.int .i64 0))), none⟩,
  ⟨none, .st 6 (.t 6) (.t 38), none⟩,
  ⟨(some 7), .mv (.t 39), none⟩]
abbrev o_config_links_8 : List IOper := [⟨(some 40), .mv (.t 7), none⟩,
  ⟨(some 41), .un .not (.t 40), none⟩,
  ⟨(some 42), .mv (.t 41), none⟩,
  ⟨(some 43), .fa 2 (.t 6), some (42, false)⟩,
  ⟨(some 44), .ld none (.t 43), some (42, false)⟩,
  ⟨(some 45), .bin .neq (.t 44) (.k (.c (.int .i64 1))), some (42, false)⟩,
  ⟨(some 46), .pick (.t 42) (.k (.c (.bool true))) (.t 45), none⟩,
  ⟨(some 47), .mv (.t 46), none⟩,
  ⟨(some 48), .fa 1 (.t 5), some (47, false)⟩,
  ⟨(some 49), .ld none (.t 48), some (47, false)⟩,
  ⟨(some 50), .len false (.t 49), some (47, false)⟩,
  ⟨(some 51), .bin .eql (.t 50) (.k (.c (.int .i64 0))), some (47, false)⟩,
  ⟨(some 52), .pick (.t 47) (.k (.c (.bool true))) (.t 51), none⟩,
  ⟨(some 53), .mv (.t 52), none⟩,
  ⟨(some 54), .fa 2 (.t 5), some (53, false)⟩,
  ⟨(some 55), .ld none (.t 54), some (53, false)⟩,
  ⟨(some 56), .fa 3 (.t 6), some (53, false)⟩,
  ⟨(some 57), .ld none (.t 56), some (53, false)⟩,
  ⟨(some 58), .bin .sub (.k (.c (.int .i64 63))) (.t 57), some (53, false)⟩,
  ⟨(some 59), .call (.k (.c (.fn fn_config_within [] []))) [(.t 55), (.k (.c (.int .i64 0))), (.t 58)], some (53, false)⟩,
  ⟨(some 60), .un .not (.t 59), some (53, false)⟩,
  ⟨(some 61), .pick (.t 53) (.k (.c (.bool true))) (.t 60), none⟩,
  ⟨(some 62), .mv (.t 61), none⟩,
  ⟨(some 63), .mv (.t 3), some (62, false)⟩,
  ⟨(some 64), .fa 0 (.t 5), some (62, false)⟩,
  ⟨(some 65), .ld none (.t 64), some (62, false)⟩,
  ⟨(some 66), .iaS 1 (.t 63) (.t 65), some (62, false)⟩,
  ⟨(some 67), .ld none (.t 66), some (62, false)⟩,
  ⟨(some 68), .bin .gtr (.t 67) (.k (.c (.int .i64 0))), some (62, false)⟩,
  ⟨(some 69), .pick (.t 62) (.k (.c (.bool true))) (.t 68), none⟩]
abbrev o_config_links_9 : List IOper := [⟨none, .st 1 (.t 2) (.k (.c (.bool false))), none⟩]
abbrev o_config_links_10 : List IOper := [⟨(some 70), .mv (.t 3), none⟩,
  ⟨(some 71), .fa 0 (.t 5), none⟩,
  ⟨(some 72), .ld none (.t 71), none⟩,
  ⟨(some 73), .iaS 1 (.t 70) (.t 72), none⟩,
  ⟨(some 74), .ld none (.t 73), none⟩,
  ⟨(some 75), .bin .add (.t 74) (.k (.c (.int .i64 1))), none⟩,
  ⟨(some 76), .iaS 1 (.t 70) (.t 72), none⟩,
  ⟨none, .st 1 (.t 76) (.t 75), none⟩]
abbrev o_config_links_11 : List IOper := [⟨(some 77), .fa 1 (.t 5), none⟩,
  ⟨(some 78), .ld none (.t 77), none⟩,
  ⟨(some 79), .len false (.t 78), none⟩,
  ⟨(some 80), .mv (.k (.c (.int .i64 0))), none⟩]
abbrev o_config_links_12 : List IOper := [⟨(some 81), .bin .lss (.t 80) (.t 79), none⟩]
abbrev o_config_links_13 : List IOper := [⟨(some 82), .mv (.t 80), none⟩,
  ⟨(some 83), .iaS 1 (.t 78) (.t 80), none⟩,
  ⟨(some 84), .ld none (.t 83), none⟩,
  ⟨(some 8), .mv (.t 82), none⟩,
  ⟨(some 9), .mv (.t 84), none⟩]
abbrev o_config_links_14 : List IOper := [⟨(some 86), .ld (some 12) (.t 1), none⟩,
  ⟨(some 87), .mv (.t 9), none⟩,
  ⟨(some 88), .call (.k (.c (.fn fn_config_port [] []))) [(.t 86), (.t 87)], none⟩,
  ⟨(some 85), .mv (.t 88), none⟩,
  ⟨(some 89), .ext (.t 85) 0, none⟩,
  ⟨(some 90), .ext (.t 85) 1, none⟩,
  ⟨(some 10), .new 91 (.agg (List.replicate 6 (.int .i64 0))), none⟩,
  ⟨none, .st 6 (.t 10) (.t 89), none⟩,
  ⟨(some 11), .mv (.t 90), none⟩]
abbrev o_config_links_15 : List IOper := [⟨(some 91), .mv (.t 11), none⟩,
  ⟨(some 92), .un .not (.t 91), none⟩,
  ⟨(some 93), .mv (.t 92), none⟩,
  ⟨(some 94), .fa 2 (.t 10), some (93, false)⟩,
  ⟨(some 95), .ld none (.t 94), some (93, false)⟩,
  ⟨(some 96), .bin .neq (.t 95) (.k (.c (.int .i64 2))), some (93, false)⟩,
  ⟨(some 97), .pick (.t 93) (.k (.c (.bool true))) (.t 96), none⟩,
  ⟨(some 98), .mv (.t 97), none⟩,
  ⟨(some 99), .fa 1 (.t 10), some (98, false)⟩,
  ⟨(some 100), .ld none (.t 99), some (98, false)⟩,
  ⟨(some 101), .fa 1 (.t 6), some (98, false)⟩,
  ⟨(some 102), .ld none (.t 101), some (98, false)⟩,
  ⟨(some 103), .bin .neq (.t 100) (.t 102), some (98, false)⟩,
  ⟨(some 104), .pick (.t 98) (.k (.c (.bool true))) (.t 103), none⟩,
  ⟨(some 105), .mv (.t 104), none⟩,
  ⟨(some 106), .fa 3 (.t 10), some (105, false)⟩,
  ⟨(some 107), .ld none (.t 106), some (105, false)⟩,
  ⟨(some 108), .fa 3 (.t 6), some (105, false)⟩,
  ⟨(some 109), .ld none (.t 108), some (105, false)⟩,
  ⟨(some 110), .bin .neq (.t 107) (.t 109), some (105, false)⟩,
  ⟨(some 111), .pick (.t 105) (.k (.c (.bool true))) (.t 110), none⟩,
  ⟨(some 112), .mv (.t 111), none⟩,
  ⟨(some 113), .mv (.t 3), some (112, false)⟩,
  ⟨(some 114), .mv (.t 9), some (112, false)⟩,
  ⟨(some 115), .iaS 1 (.t 113) (.t 114), some (112, false)⟩,
  ⟨(some 116), .ld none (.t 115), some (112, false)⟩,
  ⟨(some 117), .bin .gtr (.t 116) (.k (.c (.int .i64 0))), some (112, false)⟩,
  ⟨(some 118), .pick (.t 112) (.k (.c (.bool true))) (.t 117), none⟩]
abbrev o_config_links_16 : List IOper := [⟨none, .st 1 (.t 2) (.k (.c (.bool false))), none⟩]
abbrev o_config_links_17 : List IOper := [⟨(some 119), .mv (.t 3), none⟩,
  ⟨(some 120), .mv (.t 9), none⟩,
  ⟨(some 121), .iaS 1 (.t 119) (.t 120), none⟩,
  ⟨(some 122), .ld none (.t 121), none⟩,
  ⟨(some 123), .bin .add (.t 122) (.k (.c (.int .i64 1))), none⟩,
  ⟨(some 124), .iaS 1 (.t 119) (.t 120), none⟩,
  ⟨none, .st 1 (.t 124) (.t 123), none⟩]
abbrev o_config_links_18 : List IOper := [⟨(some 125), .mv (.t 8), none⟩,
  ⟨(some 126), .fa 1 (.t 5), none⟩,
  ⟨(some 127), .ld none (.t 126), none⟩,
  ⟨(some 128), .len false (.t 127), none⟩,
  ⟨(some 129), .bin .sub (.t 128) (.k (.c (.int .i64 1))), none⟩,
  ⟨(some 130), .bin .eql (.t 125) (.t 129), none⟩]
abbrev o_config_links_19 : List IOper := [⟨(some 131), .bin .add (.t 80) (.k (.c (.int .i64 1))), none⟩,
  ⟨(some 80), .mv (.t 131), none⟩]
def b_config_links_20 : IC := (.seq (.ops o_config_links_12) (.seq (.cond (.t 81) .skip (.exit 2)) (.seq (.block 3 (.seq (.ops o_config_links_13) (.seq (.ops o_config_links_14) (.seq (.seq (.ops o_config_links_15) (.cond (.t 118) (.seq (.ops o_config_links_16) .ret) .skip)) (.seq (.ops o_config_links_17) (.seq (.ops o_config_links_18) (.cond (.t 130) (.exit 1) .skip))))))) (.ops o_config_links_19))))
abbrev o_config_links_21 : List IOper := [⟨(some 132), .bin .add (.t 29) (.k (.c (.int .i64 1))), none⟩,
  ⟨(some 29), .mv (.t 132), none⟩]
def b_config_links_22 : IC := (.seq (.ops o_config_links_5) (.seq (.cond (.t 30) .skip (.exit 0)) (.seq (.block 1 (.seq (.ops o_config_links_6) (.seq (.ops o_config_links_7) (.seq (.seq (.ops o_config_links_8) (.cond (.t 69) (.seq (.ops o_config_links_9) .ret) .skip)) (.seq (.ops o_config_links_10) (.seq (.ops o_config_links_11) (.block 2 (.loop b_config_links_20)))))))) (.ops o_config_links_21))))
abbrev o_config_links_23 : List IOper := [⟨(some 133), .fa 11 (.t 1), none⟩,
  ⟨(some 134), .ld none (.t 133), none⟩,
  ⟨(some 135), .len false (.t 134), none⟩,
  ⟨(some 136), .call (.k (.c (.fn fn_config_pairs [] []))) [(.t 135)], none⟩]
abbrev o_config_links_24 : List IOper := [⟨(some 12), .mv (.t 137), none⟩]
abbrev o_config_links_25 : List IOper := [⟨(some 13), .mv (.t 138), none⟩]
abbrev o_config_links_26 : List IOper := [⟨(some 146), .mv (.t 13), none⟩,
  ⟨(some 144), .fa 11 (.t 1), none⟩,
  ⟨(some 145), .ld none (.t 144), none⟩,
  ⟨(some 147), .iaS 3 (.t 145) (.t 146), none⟩,
  ⟨(some 148), .ld (some 3) (.t 147), none⟩,
  ⟨(some 141), .mv (.t 12), none⟩,
  ⟨(some 139), .fa 11 (.t 1), none⟩,
  ⟨(some 140), .ld none (.t 139), none⟩,
  ⟨(some 142), .iaS 3 (.t 140) (.t 141), none⟩,
  ⟨(some 143), .ld (some 3) (.t 142), none⟩,
  ⟨(some 14), .new 93 (.agg [(.int .i64 0), (.sl none 0 0 false), (.int .i64 0)]), none⟩,
  ⟨(some 15), .new 93 (.agg [(.int .i64 0), (.sl none 0 0 false), (.int .i64 0)]), none⟩,
  ⟨none, .st 3 (.t 14) (.t 143), none⟩,
  ⟨none, .same (some none) (.t 144) (.t 145), none⟩,
  ⟨none, .same (some (some 3)) (.t 147) (.t 148), none⟩,
  ⟨none, .st 3 (.t 15) (.t 148), none⟩]
abbrev o_config_links_27 : List IOper := [⟨(some 157), .fa 0 (.t 15), none⟩,
  ⟨(some 158), .ld none (.t 157), none⟩,
  ⟨(some 155), .fa 10 (.t 1), none⟩,
  ⟨(some 156), .ld none (.t 155), none⟩,
  ⟨(some 159), .iaS 6 (.t 156) (.t 158), none⟩,
  ⟨(some 160), .ld (some 6) (.t 159), none⟩,
  ⟨(some 151), .fa 0 (.t 14), none⟩,
  ⟨(some 152), .ld none (.t 151), none⟩,
  ⟨(some 149), .fa 10 (.t 1), none⟩,
  ⟨(some 150), .ld none (.t 149), none⟩,
  ⟨(some 153), .iaS 6 (.t 150) (.t 152), none⟩,
  ⟨(some 154), .ld (some 6) (.t 153), none⟩,
  ⟨(some 16), .new 91 (.agg (List.replicate 6 (.int .i64 0))), none⟩,
  ⟨(some 17), .new 91 (.agg (List.replicate 6 (.int .i64 0))), none⟩,
  ⟨none, .st 6 (.t 16) (.t 154), none⟩,
  ⟨none, .same (some none) (.t 157) (.t 158), none⟩,
  ⟨none, .same (some none) (.t 155) (.t 156), none⟩,
  ⟨none, .same (some (some 6)) (.t 159) (.t 160), none⟩,
  ⟨none, .st 6 (.t 17) (.t 160), none⟩]
abbrev o_config_links_28 : List IOper := [⟨(some 161), .fa 8 (.t 1), none⟩,
  ⟨(some 162), .ld none (.t 161), none⟩,
  ⟨(some 163), .fa 0 (.t 16), none⟩,
  ⟨(some 164), .ld none (.t 163), none⟩,
  ⟨(some 165), .iaS 3 (.t 162) (.t 164), none⟩,
  ⟨(some 166), .fa 0 (.t 165), none⟩,
  ⟨(some 167), .ld none (.t 166), none⟩,
  ⟨(some 168), .fa 8 (.t 1), none⟩,
  ⟨(some 169), .ld none (.t 168), none⟩,
  ⟨(some 170), .fa 0 (.t 17), none⟩,
  ⟨(some 171), .ld none (.t 170), none⟩,
  ⟨(some 172), .iaS 3 (.t 169) (.t 171), none⟩,
  ⟨(some 173), .fa 0 (.t 172), none⟩,
  ⟨(some 174), .ld none (.t 173), none⟩,
  ⟨(some 175), .bin .eql (.t 167) (.t 174), none⟩,
  ⟨(some 176), .mv (.t 175), none⟩,
  ⟨(some 177), .fa 2 (.t 14), some (176, true)⟩,
  ⟨(some 178), .ld none (.t 177), some (176, true)⟩,
  ⟨(some 179), .fa 2 (.t 14), some (176, true)⟩,
  ⟨(some 180), .ld none (.t 179), some (176, true)⟩,
  ⟨(some 181), .bin .add (.t 180) (.k (.c (.int .i64 1))), some (176, true)⟩,
  ⟨(some 182), .fa 3 (.t 16), some (176, true)⟩,
  ⟨(some 183), .ld none (.t 182), some (176, true)⟩,
  ⟨(some 184), .bin .add (.t 181) (.t 183), some (176, true)⟩,
  ⟨(some 185), .fa 2 (.t 15), some (176, true)⟩,
  ⟨(some 186), .ld none (.t 185), some (176, true)⟩,
  ⟨(some 187), .fa 2 (.t 15), some (176, true)⟩,
  ⟨(some 188), .ld none (.t 187), some (176, true)⟩,
  ⟨(some 189), .bin .add (.t 188) (.k (.c (.int .i64 1))), some (176, true)⟩,
  ⟨(some 190), .fa 3 (.t 17), some (176, true)⟩,
  ⟨(some 191), .ld none (.t 190), some (176, true)⟩,
  ⟨(some 192), .bin .add (.t 189) (.t 191), some (176, true)⟩,
  ⟨(some 193), .call (.k (.c (.fn fn_config_meet [] []))) [(.t 178), (.t 184), (.t 186), (.t 192)], some (176, true)⟩,
  ⟨(some 194), .pick (.t 176) (.t 193) (.k (.c (.bool false))), none⟩]
abbrev o_config_links_29 : List IOper := [⟨none, .st 1 (.t 2) (.k (.c (.bool false))), none⟩]
def a_config_links_30 : IC := (.seq (.ops o_config_links_24) (.ops o_config_links_25))
def b_config_links_31 : IC := (.block 5 (.seq (.ops o_config_links_26) (.seq (.ops o_config_links_27) (.seq (.ops o_config_links_28) (.cond (.t 194) (.seq (.ops o_config_links_29) .ret) .skip)))))
abbrev o_config_links_32 : List IOper := [⟨none, .st 1 (.t 2) (.k (.c (.bool true))), none⟩]
def c_config_links : IC := (.seq (.ops o_config_links_0) (.seq .skip (.seq (.seq (.ops o_config_links_1) (.cond (.t 21) (.seq (.ops o_config_links_2) .ret) .skip)) (.seq (.ops o_config_links_3) (.seq .skip (.seq (.seq (.ops o_config_links_4) (.block 0 (.loop b_config_links_22))) (.seq (.seq (.ops o_config_links_23) (.block 4 (.rangeF (.t 136) [137, 138] a_config_links_30 b_config_links_31))) (.seq (.ops o_config_links_32) .ret))))))))
def i_config_links : IFn := ⟨195, c_config_links, [(2, (some none))]⟩

-- F 44 (*rota/clock.Clock).of$1: bads 0, calls []
abbrev o_clock_Clock_of_1_0 : List IOper := [⟨(some 7), .ld none (.t 1), none⟩,
  ⟨(some 8), .nilck (.t 7), none⟩,
  ⟨(some 9), .fa 0 (.t 8), none⟩,
  ⟨(some 10), .ld none (.t 9), none⟩,
  ⟨(some 11), .mv (.k (.c (.int .i64 0))), none⟩]
abbrev o_clock_Clock_of_1_1 : List IOper := [⟨(some 12), .bin .lss (.t 11) (.t 10), none⟩]
abbrev o_clock_Clock_of_1_2 : List IOper := [⟨(some 13), .mv (.t 11), none⟩,
  ⟨(some 5), .mv (.t 13), none⟩]
abbrev o_clock_Clock_of_1_3 : List IOper := [⟨(some 14), .ld none (.t 2), none⟩,
  ⟨(some 15), .mv (.t 5), none⟩,
  ⟨(some 16), .bin .shl (.k (.c (.int .u16 1))) (.t 15), none⟩,
  ⟨(some 17), .bin .and (.t 14) (.t 16), none⟩,
  ⟨(some 18), .bin .eql (.t 17) (.k (.c (.int .u16 0))), none⟩,
  ⟨(some 19), .mv (.t 18), none⟩,
  ⟨(some 20), .mv (.t 5), some (19, false)⟩,
  ⟨(some 21), .ld none (.t 3), some (19, false)⟩,
  ⟨(some 22), .bin .neq (.t 20) (.t 21), some (19, false)⟩,
  ⟨(some 23), .mv (.t 22), some (19, false)⟩,
  ⟨(some 24), .ld none (.t 1), some (23, true)⟩,
  ⟨(some 25), .mv (.t 5), some (23, true)⟩,
  ⟨(some 26), .nilck (.t 24), some (23, true)⟩,
  ⟨(some 27), .fa 6 (.t 26), some (23, true)⟩,
  ⟨(some 28), .iaA 16 1 (.t 27) (.t 25), some (23, true)⟩,
  ⟨(some 29), .ld none (.t 28), some (23, true)⟩,
  ⟨(some 30), .un .not (.t 29), some (23, true)⟩,
  ⟨(some 31), .pick (.t 23) (.t 30) (.k (.c (.bool false))), some (19, false)⟩,
  ⟨(some 32), .pick (.t 19) (.k (.c (.bool true))) (.t 31), none⟩]
abbrev o_clock_Clock_of_1_4 : List IOper := [⟨(some 33), .ld none (.t 1), none⟩,
  ⟨(some 34), .mv (.t 5), none⟩,
  ⟨(some 35), .nilck (.t 33), none⟩,
  ⟨(some 36), .fa 22 (.t 35), none⟩,
  ⟨(some 37), .iaA 16 1 (.t 36) (.t 34), none⟩,
  ⟨(some 38), .ld none (.t 37), none⟩,
  ⟨(some 6), .mv (.t 38), none⟩]
abbrev o_clock_Clock_of_1_5 : List IOper := [⟨(some 39), .mv (.t 5), none⟩,
  ⟨(some 40), .ld none (.t 3), none⟩,
  ⟨(some 41), .bin .eql (.t 39) (.t 40), none⟩]
abbrev o_clock_Clock_of_1_6 : List IOper := [⟨(some 6), .mv (.k (.c (.int .i64 0))), none⟩]
abbrev o_clock_Clock_of_1_7 : List IOper := [⟨(some 42), .mv (.t 0), none⟩,
  ⟨(some 43), .mv (.t 6), none⟩,
  ⟨(some 44), .call (.t 42) [(.t 43)], none⟩,
  ⟨(some 45), .un .not (.t 44), none⟩]
abbrev o_clock_Clock_of_1_8 : List IOper := [⟨(some 46), .bin .add (.t 11) (.k (.c (.int .i64 1))), none⟩,
  ⟨(some 11), .mv (.t 46), none⟩]
def b_clock_Clock_of_1_9 : IC := (.seq (.ops o_clock_Clock_of_1_1) (.seq (.cond (.t 12) .skip (.exit 0)) (.seq (.block 1 (.seq (.ops o_clock_Clock_of_1_2) (.seq (.seq (.ops o_clock_Clock_of_1_3) (.cond (.t 32) (.exit 1) .skip)) (.seq (.ops o_clock_Clock_of_1_4) (.seq (.seq (.ops o_clock_Clock_of_1_5) (.cond (.t 41) (.ops o_clock_Clock_of_1_6) .skip)) (.seq (.ops o_clock_Clock_of_1_7) (.cond (.t 45) .ret .skip))))))) (.ops o_clock_Clock_of_1_8))))
def c_clock_Clock_of_1 : IC := (.seq (.ops o_clock_Clock_of_1_0) (.block 0 (.loop b_clock_Clock_of_1_9)))
def i_clock_Clock_of_1 : IFn := ⟨47, c_clock_Clock_of_1, []⟩

-- F 47 rota/rotaref02.nodes: bads 0, calls [72]
abbrev o_rotaref02_nodes_0 : List IOper := [⟨(some 1), .box 28 (.t 0), none⟩,
  ⟨(some 2), .mv (.k (.c (.bool false))), none⟩]
abbrev o_rotaref02_nodes_1 : List IOper := [⟨(some 4), .fa 0 (.t 1), none⟩,
  ⟨(some 5), .ld none (.t 4), none⟩,
  ⟨(some 6), .bin .lss (.t 5) (.k (.c (.int .i64 4))), none⟩,
  ⟨(some 7), .mv (.t 6), none⟩,
  ⟨(some 8), .fa 0 (.t 1), some (7, false)⟩,
  ⟨(some 9), .ld none (.t 8), some (7, false)⟩,
  ⟨(some 10), .bin .gtr (.t 9) (.k (.c (.int .i64 16))), some (7, false)⟩,
  ⟨(some 11), .pick (.t 7) (.k (.c (.bool true))) (.t 10), none⟩,
  ⟨(some 12), .mv (.t 11), none⟩,
  ⟨(some 13), .fa 1 (.t 1), some (12, false)⟩,
  ⟨(some 14), .ld none (.t 13), some (12, false)⟩,
  ⟨(some 15), .len false (.t 14), some (12, false)⟩,
  ⟨(some 16), .fa 0 (.t 1), some (12, false)⟩,
  ⟨(some 17), .ld none (.t 16), some (12, false)⟩,
  ⟨(some 18), .bin .neq (.t 15) (.t 17), some (12, false)⟩,
  ⟨(some 19), .pick (.t 12) (.k (.c (.bool true))) (.t 18), none⟩]
abbrev o_rotaref02_nodes_2 : List IOper := [⟨(some 2), .mv (.k (.c (.bool false))), none⟩]
abbrev o_rotaref02_nodes_3 : List IOper := [⟨(some 3), .mv (.k (.c (.int .i64 0))), none⟩]
abbrev o_rotaref02_nodes_4 : List IOper := [⟨(some 20), .mv (.t 3), none⟩,
  ⟨(some 21), .fa 0 (.t 1), none⟩,
  ⟨(some 22), .ld none (.t 21), none⟩,
  ⟨(some 23), .bin .lss (.t 20) (.t 22), none⟩]
abbrev o_rotaref02_nodes_5 : List IOper := [⟨(some 26), .fa 1 (.t 1), none⟩,
  ⟨(some 27), .ld none (.t 26), none⟩,
  ⟨(some 28), .mv (.t 3), none⟩,
  ⟨(some 29), .call (.k (.c (.fn fn_rotaref02_count [] []))) [(.t 27), (.t 28)], none⟩,
  ⟨(some 30), .bin .neq (.t 29) (.k (.c (.int .i64 1))), none⟩]
abbrev o_rotaref02_nodes_6 : List IOper := [⟨(some 2), .mv (.k (.c (.bool false))), none⟩]
abbrev o_rotaref02_nodes_7 : List IOper := [⟨(some 24), .mv (.t 3), none⟩,
  ⟨(some 25), .bin .add (.t 24) (.k (.c (.int .i64 1))), none⟩,
  ⟨(some 3), .mv (.t 25), none⟩]
def b_rotaref02_nodes_8 : IC := (.seq (.seq (.ops o_rotaref02_nodes_4) (.cond (.t 23) .skip (.exit 0))) (.seq (.block 1 (.seq (.ops o_rotaref02_nodes_5) (.cond (.t 30) (.seq (.ops o_rotaref02_nodes_6) .ret) .skip))) (.ops o_rotaref02_nodes_7)))
abbrev o_rotaref02_nodes_9 : List IOper := [⟨(some 2), .mv (.k (.c (.bool true))), none⟩]
def c_rotaref02_nodes : IC := (.seq (.ops o_rotaref02_nodes_0) (.seq (.seq (.ops o_rotaref02_nodes_1) (.cond (.t 19) (.seq (.ops o_rotaref02_nodes_2) .ret) .skip)) (.seq (.seq (.ops o_rotaref02_nodes_3) (.block 0 (.loop b_rotaref02_nodes_8))) (.seq (.ops o_rotaref02_nodes_9) .ret))))
def i_rotaref02_nodes : IFn := ⟨31, c_rotaref02_nodes, [(2, none)]⟩

-- F 48 rota/rotaref02.clock: bads 0, calls [73, 73]
abbrev o_rotaref02_clock_0 : List IOper := [⟨(some 1), .box 28 (.t 0), none⟩,
  ⟨(some 2), .mv (.k (.c (.bool false))), none⟩]
abbrev o_rotaref02_clock_1 : List IOper := [⟨(some 4), .fa 2 (.t 1), none⟩,
  ⟨(some 5), .ld none (.t 4), none⟩,
  ⟨(some 6), .bin .lss (.t 5) (.k (.c (.int .i64 0))), none⟩,
  ⟨(some 7), .mv (.t 6), none⟩,
  ⟨(some 8), .fa 2 (.t 1), some (7, false)⟩,
  ⟨(some 9), .ld none (.t 8), some (7, false)⟩,
  ⟨(some 10), .bin .gtr (.t 9) (.k (.c (.int .i64 1048576))), some (7, false)⟩,
  ⟨(some 11), .pick (.t 7) (.k (.c (.bool true))) (.t 10), none⟩,
  ⟨(some 12), .mv (.t 11), none⟩,
  ⟨(some 13), .fa 3 (.t 1), some (12, false)⟩,
  ⟨(some 14), .ld none (.t 13), some (12, false)⟩,
  ⟨(some 15), .bin .lss (.t 14) (.k (.c (.int .i64 0))), some (12, false)⟩,
  ⟨(some 16), .pick (.t 12) (.k (.c (.bool true))) (.t 15), none⟩,
  ⟨(some 17), .mv (.t 16), none⟩,
  ⟨(some 18), .fa 3 (.t 1), some (17, false)⟩,
  ⟨(some 19), .ld none (.t 18), some (17, false)⟩,
  ⟨(some 20), .bin .gtr (.t 19) (.k (.c (.int .i64 1048576))), some (17, false)⟩,
  ⟨(some 21), .pick (.t 17) (.k (.c (.bool true))) (.t 20), none⟩]
abbrev o_rotaref02_clock_2 : List IOper := [⟨(some 2), .mv (.k (.c (.bool false))), none⟩]
abbrev o_rotaref02_clock_3 : List IOper := [⟨(some 27), .fa 3 (.t 1), none⟩,
  ⟨(some 28), .ld none (.t 27), none⟩,
  ⟨(some 24), .ld (some 12) (.t 1), none⟩,
  ⟨(some 22), .ld (some 12) (.t 1), none⟩,
  ⟨(some 23), .call (.k (.c (.fn fn_rotaref02_Precision [] []))) [(.t 22)], none⟩,
  ⟨none, .same (some none) (.t 27) (.t 28), none⟩,
  ⟨none, .same (some (some 12)) (.t 1) (.t 24), none⟩,
  ⟨(some 25), .call (.k (.c (.fn fn_rotaref02_Precision [] []))) [(.t 24)], none⟩,
  ⟨none, .same (some none) (.t 27) (.t 28), none⟩,
  ⟨(some 26), .bin .add (.t 23) (.t 25), none⟩,
  ⟨(some 29), .bin .add (.t 26) (.t 28), none⟩,
  ⟨(some 3), .mv (.t 29), none⟩]
abbrev o_rotaref02_clock_4 : List IOper := [⟨(some 30), .fa 4 (.t 1), none⟩,
  ⟨(some 31), .ld none (.t 30), none⟩,
  ⟨(some 32), .mv (.t 3), none⟩,
  ⟨(some 33), .bin .geq (.t 31) (.t 32), none⟩,
  ⟨(some 34), .mv (.t 33), none⟩,
  ⟨(some 35), .fa 4 (.t 1), some (34, true)⟩,
  ⟨(some 36), .ld none (.t 35), some (34, true)⟩,
  ⟨(some 37), .bin .leq (.t 36) (.k (.c (.int .i64 16777216))), some (34, true)⟩,
  ⟨(some 38), .pick (.t 34) (.t 37) (.k (.c (.bool false))), none⟩,
  ⟨(some 39), .mv (.t 38), none⟩,
  ⟨(some 40), .fa 5 (.t 1), some (39, true)⟩,
  ⟨(some 41), .ld none (.t 40), some (39, true)⟩,
  ⟨(some 42), .mv (.t 3), some (39, true)⟩,
  ⟨(some 43), .bin .geq (.t 41) (.t 42), some (39, true)⟩,
  ⟨(some 44), .pick (.t 39) (.t 43) (.k (.c (.bool false))), none⟩,
  ⟨(some 45), .mv (.t 44), none⟩,
  ⟨(some 46), .fa 5 (.t 1), some (45, true)⟩,
  ⟨(some 47), .ld none (.t 46), some (45, true)⟩,
  ⟨(some 48), .bin .leq (.t 47) (.k (.c (.int .i64 16777216))), some (45, true)⟩,
  ⟨(some 49), .pick (.t 45) (.t 48) (.k (.c (.bool false))), none⟩,
  ⟨(some 50), .mv (.t 49), none⟩,
  ⟨(some 51), .fa 6 (.t 1), some (50, true)⟩,
  ⟨(some 52), .ld none (.t 51), some (50, true)⟩,
  ⟨(some 53), .bin .geq (.t 52) (.k (.c (.int .i64 1))), some (50, true)⟩,
  ⟨(some 54), .pick (.t 50) (.t 53) (.k (.c (.bool false))), none⟩,
  ⟨(some 55), .mv (.t 54), none⟩,
  ⟨(some 56), .fa 6 (.t 1), some (55, true)⟩,
  ⟨(some 57), .ld none (.t 56), some (55, true)⟩,
  ⟨(some 58), .bin .leq (.t 57) (.k (.c (.int .i64 8))), some (55, true)⟩,
  ⟨(some 59), .pick (.t 55) (.t 58) (.k (.c (.bool false))), none⟩,
  ⟨(some 60), .mv (.t 59), none⟩,
  ⟨(some 61), .fa 7 (.t 1), some (60, true)⟩,
  ⟨(some 62), .ld none (.t 61), some (60, true)⟩,
  ⟨(some 63), .bin .geq (.t 62) (.k (.c (.int .i64 1))), some (60, true)⟩,
  ⟨(some 64), .pick (.t 60) (.t 63) (.k (.c (.bool false))), none⟩,
  ⟨(some 65), .mv (.t 64), none⟩,
  ⟨(some 66), .fa 7 (.t 1), some (65, true)⟩,
  ⟨(some 67), .ld none (.t 66), some (65, true)⟩,
  ⟨(some 68), .bin .leq (.t 67) (.k (.c (.int .i64 16))), some (65, true)⟩,
  ⟨(some 69), .pick (.t 65) (.t 68) (.k (.c (.bool false))), none⟩,
  ⟨(some 2), .mv (.t 69), none⟩]
def c_rotaref02_clock : IC := (.seq (.ops o_rotaref02_clock_0) (.seq (.seq (.ops o_rotaref02_clock_1) (.cond (.t 21) (.seq (.ops o_rotaref02_clock_2) .ret) .skip)) (.seq (.ops o_rotaref02_clock_3) (.seq (.ops o_rotaref02_clock_4) .ret))))
def i_rotaref02_clock : IFn := ⟨70, c_rotaref02_clock, [(2, none)]⟩

-- F 49 rota/rotaref02.parts: bads 0, calls [74]
abbrev o_rotaref02_parts_0 : List IOper := [⟨(some 1), .box 28 (.t 0), none⟩,
  ⟨(some 2), .mv (.k (.c (.bool false))), none⟩]
abbrev o_rotaref02_parts_1 : List IOper := [⟨(some 9), .fa 8 (.t 1), none⟩,
  ⟨(some 10), .ld none (.t 9), none⟩,
  ⟨(some 11), .len false (.t 10), none⟩,
  ⟨(some 12), .bin .gtr (.t 11) (.k (.c (.int .i64 32))), none⟩]
abbrev o_rotaref02_parts_2 : List IOper := [⟨(some 2), .mv (.k (.c (.bool false))), none⟩]
abbrev o_rotaref02_parts_3 : List IOper := [⟨(some 3), .mv (.k (.c (.int .i64 0))), none⟩]
abbrev o_rotaref02_parts_4 : List IOper := [⟨(some 13), .mv (.t 3), none⟩,
  ⟨(some 14), .fa 8 (.t 1), none⟩,
  ⟨(some 15), .ld none (.t 14), none⟩,
  ⟨(some 16), .len false (.t 15), none⟩,
  ⟨(some 17), .bin .lss (.t 13) (.t 16), none⟩]
abbrev o_rotaref02_parts_5 : List IOper := [⟨(some 20), .fa 8 (.t 1), none⟩,
  ⟨(some 21), .ld none (.t 20), none⟩,
  ⟨(some 22), .mv (.t 3), none⟩,
  ⟨(some 23), .iaS 3 (.t 21) (.t 22), none⟩,
  ⟨(some 24), .ld (some 3) (.t 23), none⟩,
  ⟨(some 4), .new 85 (.agg [(.int .i64 0), (.int .i64 0), (.int .i64 0)]), none⟩,
  ⟨none, .st 3 (.t 4) (.t 24), none⟩]
abbrev o_rotaref02_parts_6 : List IOper := [⟨(some 25), .fa 0 (.t 4), none⟩,
  ⟨(some 26), .ld none (.t 25), none⟩,
  ⟨(some 27), .bin .lss (.t 26) (.k (.c (.int .i64 0))), none⟩,
  ⟨(some 28), .mv (.t 27), none⟩,
  ⟨(some 29), .fa 0 (.t 4), some (28, false)⟩,
  ⟨(some 30), .ld none (.t 29), some (28, false)⟩,
  ⟨(some 31), .fa 0 (.t 1), some (28, false)⟩,
  ⟨(some 32), .ld none (.t 31), some (28, false)⟩,
  ⟨(some 33), .bin .geq (.t 30) (.t 32), some (28, false)⟩,
  ⟨(some 34), .pick (.t 28) (.k (.c (.bool true))) (.t 33), none⟩,
  ⟨(some 35), .mv (.t 34), none⟩,
  ⟨(some 36), .fa 1 (.t 4), some (35, false)⟩,
  ⟨(some 37), .ld none (.t 36), some (35, false)⟩,
  ⟨(some 38), .bin .lss (.t 37) (.k (.c (.int .i64 0))), some (35, false)⟩,
  ⟨(some 39), .pick (.t 35) (.k (.c (.bool true))) (.t 38), none⟩,
  ⟨(some 40), .mv (.t 39), none⟩,
  ⟨(some 41), .fa 1 (.t 4), some (40, false)⟩,
  ⟨(some 42), .ld none (.t 41), some (40, false)⟩,
  ⟨(some 43), .fa 2 (.t 4), some (40, false)⟩,
  ⟨(some 44), .ld none (.t 43), some (40, false)⟩,
  ⟨(some 45), .bin .gtr (.t 42) (.t 44), some (40, false)⟩,
  ⟨(some 46), .pick (.t 40) (.k (.c (.bool true))) (.t 45), none⟩,
  ⟨(some 47), .mv (.t 46), none⟩,
  ⟨(some 48), .fa 2 (.t 4), some (47, false)⟩,
  ⟨(some 49), .ld none (.t 48), some (47, false)⟩,
  ⟨(some 50), .bin .gtr (.t 49) (.k (.c (.int .i64 256))), some (47, false)⟩,
  ⟨(some 51), .pick (.t 47) (.k (.c (.bool true))) (.t 50), none⟩]
abbrev o_rotaref02_parts_7 : List IOper := [⟨(some 2), .mv (.k (.c (.bool false))), none⟩]
abbrev o_rotaref02_parts_8 : List IOper := [⟨(some 18), .mv (.t 3), none⟩,
  ⟨(some 19), .bin .add (.t 18) (.k (.c (.int .i64 1))), none⟩,
  ⟨(some 3), .mv (.t 19), none⟩]
def b_rotaref02_parts_9 : IC := (.seq (.seq (.ops o_rotaref02_parts_4) (.cond (.t 17) .skip (.exit 0))) (.seq (.block 1 (.seq (.ops o_rotaref02_parts_5) (.seq (.ops o_rotaref02_parts_6) (.cond (.t 51) (.seq (.ops o_rotaref02_parts_7) .ret) .skip)))) (.ops o_rotaref02_parts_8)))
abbrev o_rotaref02_parts_10 : List IOper := [⟨(some 5), .mv (.k (.c (.int .i64 0))), none⟩]
abbrev o_rotaref02_parts_11 : List IOper := [⟨(some 52), .mv (.t 5), none⟩,
  ⟨(some 53), .fa 8 (.t 1), none⟩,
  ⟨(some 54), .ld none (.t 53), none⟩,
  ⟨(some 55), .len false (.t 54), none⟩,
  ⟨(some 56), .bin .lss (.t 52) (.t 55), none⟩]
abbrev o_rotaref02_parts_12 : List IOper := [⟨(some 6), .mv (.k (.c (.int .i64 0))), none⟩]
abbrev o_rotaref02_parts_13 : List IOper := [⟨(some 59), .mv (.t 6), none⟩,
  ⟨(some 60), .mv (.t 5), none⟩,
  ⟨(some 61), .bin .lss (.t 59) (.t 60), none⟩]
abbrev o_rotaref02_parts_14 : List IOper := [⟨(some 64), .fa 8 (.t 1), none⟩,
  ⟨(some 65), .ld none (.t 64), none⟩,
  ⟨(some 66), .mv (.t 5), none⟩,
  ⟨(some 67), .iaS 3 (.t 65) (.t 66), none⟩,
  ⟨(some 68), .ld (some 3) (.t 67), none⟩,
  ⟨(some 7), .new 85 (.agg [(.int .i64 0), (.int .i64 0), (.int .i64 0)]), none⟩,
  ⟨none, .st 3 (.t 7) (.t 68), none⟩]
abbrev o_rotaref02_parts_15 : List IOper := [⟨(some 69), .fa 8 (.t 1), none⟩,
  ⟨(some 70), .ld none (.t 69), none⟩,
  ⟨(some 71), .mv (.t 6), none⟩,
  ⟨(some 72), .iaS 3 (.t 70) (.t 71), none⟩,
  ⟨(some 73), .ld (some 3) (.t 72), none⟩,
  ⟨(some 8), .new 85 (.agg [(.int .i64 0), (.int .i64 0), (.int .i64 0)]), none⟩,
  ⟨none, .st 3 (.t 8) (.t 73), none⟩]
abbrev o_rotaref02_parts_16 : List IOper := [⟨(some 74), .fa 0 (.t 7), none⟩,
  ⟨(some 75), .ld none (.t 74), none⟩,
  ⟨(some 76), .fa 0 (.t 8), none⟩,
  ⟨(some 77), .ld none (.t 76), none⟩,
  ⟨(some 78), .bin .eql (.t 75) (.t 77), none⟩,
  ⟨(some 79), .mv (.t 78), none⟩,
  ⟨(some 80), .fa 1 (.t 7), some (79, true)⟩,
  ⟨(some 81), .ld none (.t 80), some (79, true)⟩,
  ⟨(some 82), .fa 2 (.t 7), some (79, true)⟩,
  ⟨(some 83), .ld none (.t 82), some (79, true)⟩,
  ⟨(some 84), .fa 1 (.t 8), some (79, true)⟩,
  ⟨(some 85), .ld none (.t 84), some (79, true)⟩,
  ⟨(some 86), .fa 2 (.t 8), some (79, true)⟩,
  ⟨(some 87), .ld none (.t 86), some (79, true)⟩,
  ⟨(some 88), .call (.k (.c (.fn fn_rotaref02_meet [] []))) [(.t 81), (.t 83), (.t 85), (.t 87)], some (79, true)⟩,
  ⟨(some 89), .pick (.t 79) (.t 88) (.k (.c (.bool false))), none⟩]
abbrev o_rotaref02_parts_17 : List IOper := [⟨(some 2), .mv (.k (.c (.bool false))), none⟩]
abbrev o_rotaref02_parts_18 : List IOper := [⟨(some 62), .mv (.t 6), none⟩,
  ⟨(some 63), .bin .add (.t 62) (.k (.c (.int .i64 1))), none⟩,
  ⟨(some 6), .mv (.t 63), none⟩]
def b_rotaref02_parts_19 : IC := (.seq (.seq (.ops o_rotaref02_parts_13) (.cond (.t 61) .skip (.exit 4))) (.seq (.block 5 (.seq (.ops o_rotaref02_parts_14) (.seq (.ops o_rotaref02_parts_15) (.seq (.ops o_rotaref02_parts_16) (.cond (.t 89) (.seq (.ops o_rotaref02_parts_17) .ret) .skip))))) (.ops o_rotaref02_parts_18)))
abbrev o_rotaref02_parts_20 : List IOper := [⟨(some 57), .mv (.t 5), none⟩,
  ⟨(some 58), .bin .add (.t 57) (.k (.c (.int .i64 1))), none⟩,
  ⟨(some 5), .mv (.t 58), none⟩]
def b_rotaref02_parts_21 : IC := (.seq (.seq (.ops o_rotaref02_parts_11) (.cond (.t 56) .skip (.exit 2))) (.seq (.block 3 (.seq (.ops o_rotaref02_parts_12) (.block 4 (.loop b_rotaref02_parts_19)))) (.ops o_rotaref02_parts_20)))
abbrev o_rotaref02_parts_22 : List IOper := [⟨(some 2), .mv (.k (.c (.bool true))), none⟩]
def c_rotaref02_parts : IC := (.seq (.ops o_rotaref02_parts_0) (.seq (.seq (.ops o_rotaref02_parts_1) (.cond (.t 12) (.seq (.ops o_rotaref02_parts_2) .ret) .skip)) (.seq (.seq (.ops o_rotaref02_parts_3) (.block 0 (.loop b_rotaref02_parts_9))) (.seq (.seq (.ops o_rotaref02_parts_10) (.block 2 (.loop b_rotaref02_parts_21))) (.seq (.ops o_rotaref02_parts_22) .ret)))))
def i_rotaref02_parts : IFn := ⟨90, c_rotaref02_parts, [(2, none)]⟩

-- F 50 rota/rotaref02.windows: bads 0, calls []
abbrev o_rotaref02_windows_0 : List IOper := [⟨(some 1), .box 28 (.t 0), none⟩,
  ⟨(some 2), .mv (.k (.c (.bool false))), none⟩]
abbrev o_rotaref02_windows_1 : List IOper := [⟨(some 6), .fa 9 (.t 1), none⟩,
  ⟨(some 7), .ld none (.t 6), none⟩,
  ⟨(some 8), .len false (.t 7), none⟩,
  ⟨(some 9), .fa 0 (.t 1), none⟩,
  ⟨(some 10), .ld none (.t 9), none⟩,
  ⟨(some 11), .bin .neq (.t 8) (.t 10), none⟩]
abbrev o_rotaref02_windows_2 : List IOper := [⟨(some 2), .mv (.k (.c (.bool false))), none⟩]
abbrev o_rotaref02_windows_3 : List IOper := [⟨(some 3), .mv (.k (.c (.int .i64 0))), none⟩]
abbrev o_rotaref02_windows_4 : List IOper := [⟨(some 12), .mv (.t 3), none⟩,
  ⟨(some 13), .fa 0 (.t 1), none⟩,
  ⟨(some 14), .ld none (.t 13), none⟩,
  ⟨(some 15), .bin .lss (.t 12) (.t 14), none⟩]
abbrev o_rotaref02_windows_5 : List IOper := [⟨(some 18), .fa 9 (.t 1), none⟩,
  ⟨(some 19), .ld none (.t 18), none⟩,
  ⟨(some 20), .mv (.t 3), none⟩,
  ⟨(some 21), .iaS 1 (.t 19) (.t 20), none⟩,
  ⟨(some 22), .ld none (.t 21), none⟩,
  ⟨(some 23), .len false (.t 22), none⟩,
  ⟨(some 24), .fa 0 (.t 1), none⟩,
  ⟨(some 25), .ld none (.t 24), none⟩,
  ⟨(some 26), .bin .neq (.t 23) (.t 25), none⟩]
abbrev o_rotaref02_windows_6 : List IOper := [⟨(some 2), .mv (.k (.c (.bool false))), none⟩]
abbrev o_rotaref02_windows_7 : List IOper := [⟨(some 4), .mv (.k (.c (.int .i64 0))), none⟩]
abbrev o_rotaref02_windows_8 : List IOper := [⟨(some 27), .mv (.t 4), none⟩,
  ⟨(some 28), .fa 0 (.t 1), none⟩,
  ⟨(some 29), .ld none (.t 28), none⟩,
  ⟨(some 30), .bin .lss (.t 27) (.t 29), none⟩]
abbrev o_rotaref02_windows_9 : List IOper := [⟨(some 33), .fa 9 (.t 1), none⟩,
  ⟨(some 34), .ld none (.t 33), none⟩,
  ⟨(some 35), .mv (.t 3), none⟩,
  ⟨(some 36), .iaS 1 (.t 34) (.t 35), none⟩,
  ⟨(some 37), .ld none (.t 36), none⟩,
  ⟨(some 38), .mv (.t 4), none⟩,
  ⟨(some 39), .iaS 1 (.t 37) (.t 38), none⟩,
  ⟨(some 40), .ld none (.t 39), none⟩,
  ⟨(some 5), .mv (.t 40), none⟩]
abbrev o_rotaref02_windows_10 : List IOper := [⟨(some 41), .mv (.t 5), none⟩,
  ⟨(some 42), .bin .neq (.t 41) (.k (.c (.int .i64 (-1)))), none⟩,
  ⟨(some 43), .mv (.t 42), none⟩,
  ⟨(some 44), .mv (.t 5), some (43, true)⟩,
  ⟨(some 45), .bin .lss (.t 44) (.k (.c (.int .i64 0))), some (43, true)⟩,
  ⟨(some 46), .mv (.t 45), some (43, true)⟩,
  ⟨(some 47), .mv (.t 5), some (46, false)⟩,
  ⟨(some 48), .fa 8 (.t 1), some (46, false)⟩,
  ⟨(some 49), .ld none (.t 48), some (46, false)⟩,
  ⟨(some 50), .len false (.t 49), some (46, false)⟩,
  ⟨(some 51), .bin .geq (.t 47) (.t 50), some (46, false)⟩,
  ⟨(some 52), .pick (.t 46) (.k (.c (.bool true))) (.t 51), some (43, true)⟩,
  ⟨(some 53), .mv (.t 52), some (43, true)⟩,
  ⟨(some 54), .fa 8 (.t 1), some (53, false)⟩,
  ⟨(some 55), .ld none (.t 54), some (53, false)⟩,
  ⟨(some 56), .mv (.t 5), some (53, false)⟩,
  ⟨(some 57), .iaS 3 (.t 55) (.t 56), some (53, false)⟩,
  ⟨(some 58), .fa 0 (.t 57), some (53, false)⟩,
  ⟨(some 59), .ld none (.t 58), some (53, false)⟩,
  ⟨(some 60), .mv (.t 3), some (53, false)⟩,
  ⟨(some 61), .bin .neq (.t 59) (.t 60), some (53, false)⟩,
  ⟨(some 62), .pick (.t 53) (.k (.c (.bool true))) (.t 61), some (43, true)⟩,
  ⟨(some 63), .pick (.t 43) (.t 62) (.k (.c (.bool false))), none⟩]
abbrev o_rotaref02_windows_11 : List IOper := [⟨(some 2), .mv (.k (.c (.bool false))), none⟩]
abbrev o_rotaref02_windows_12 : List IOper := [⟨(some 31), .mv (.t 4), none⟩,
  ⟨(some 32), .bin .add (.t 31) (.k (.c (.int .i64 1))), none⟩,
  ⟨(some 4), .mv (.t 32), none⟩]
def b_rotaref02_windows_13 : IC := (.seq (.seq (.ops o_rotaref02_windows_8) (.cond (.t 30) .skip (.exit 2))) (.seq (.block 3 (.seq (.ops o_rotaref02_windows_9) (.seq (.ops o_rotaref02_windows_10) (.cond (.t 63) (.seq (.ops o_rotaref02_windows_11) .ret) .skip)))) (.ops o_rotaref02_windows_12)))
abbrev o_rotaref02_windows_14 : List IOper := [⟨(some 16), .mv (.t 3), none⟩,
  ⟨(some 17), .bin .add (.t 16) (.k (.c (.int .i64 1))), none⟩,
  ⟨(some 3), .mv (.t 17), none⟩]
def b_rotaref02_windows_15 : IC := (.seq (.seq (.ops o_rotaref02_windows_4) (.cond (.t 15) .skip (.exit 0))) (.seq (.block 1 (.seq (.seq (.ops o_rotaref02_windows_5) (.cond (.t 26) (.seq (.ops o_rotaref02_windows_6) .ret) .skip)) (.seq (.ops o_rotaref02_windows_7) (.block 2 (.loop b_rotaref02_windows_13))))) (.ops o_rotaref02_windows_14)))
abbrev o_rotaref02_windows_16 : List IOper := [⟨(some 2), .mv (.k (.c (.bool true))), none⟩]
def c_rotaref02_windows : IC := (.seq (.ops o_rotaref02_windows_0) (.seq (.seq (.ops o_rotaref02_windows_1) (.cond (.t 11) (.seq (.ops o_rotaref02_windows_2) .ret) .skip)) (.seq (.seq (.ops o_rotaref02_windows_3) (.block 0 (.loop b_rotaref02_windows_15))) (.seq (.ops o_rotaref02_windows_16) .ret))))
def i_rotaref02_windows : IFn := ⟨64, c_rotaref02_windows, [(2, none)]⟩

-- F 51 rota/rotaref02.ports: bads 0, calls [75]
abbrev o_rotaref02_ports_0 : List IOper := [⟨(some 1), .box 28 (.t 0), none⟩,
  ⟨(some 2), .mv (.k (.c (.bool false))), none⟩]
abbrev o_rotaref02_ports_1 : List IOper := [⟨(some 3), .mv (.k (.c (.int .i64 0))), none⟩]
abbrev o_rotaref02_ports_2 : List IOper := [⟨(some 4), .mv (.t 3), none⟩,
  ⟨(some 5), .fa 10 (.t 1), none⟩,
  ⟨(some 6), .ld none (.t 5), none⟩,
  ⟨(some 7), .len false (.t 6), none⟩,
  ⟨(some 8), .bin .lss (.t 4) (.t 7), none⟩]
abbrev o_rotaref02_ports_3 : List IOper := [⟨(some 11), .fa 10 (.t 1), none⟩,
  ⟨(some 12), .ld none (.t 11), none⟩,
  ⟨(some 13), .mv (.t 3), none⟩,
  ⟨(some 14), .iaS 6 (.t 12) (.t 13), none⟩,
  ⟨(some 15), .ld (some 6) (.t 14), none⟩,
  ⟨(some 16), .call (.k (.c (.fn fn_rotaref02_Alone [] []))) [(.t 15)], none⟩,
  ⟨(some 17), .un .not (.t 16), none⟩,
  ⟨(some 18), .mv (.t 17), none⟩,
  ⟨(some 19), .fa 10 (.t 1), some (18, false)⟩,
  ⟨(some 20), .ld none (.t 19), some (18, false)⟩,
  ⟨(some 21), .mv (.t 3), some (18, false)⟩,
  ⟨(some 22), .iaS 6 (.t 20) (.t 21), some (18, false)⟩,
  ⟨(some 23), .fa 0 (.t 22), some (18, false)⟩,
  ⟨(some 24), .ld none (.t 23), some (18, false)⟩,
  ⟨(some 25), .bin .lss (.t 24) (.k (.c (.int .i64 0))), some (18, false)⟩,
  ⟨(some 26), .pick (.t 18) (.k (.c (.bool true))) (.t 25), none⟩,
  ⟨(some 27), .mv (.t 26), none⟩,
  ⟨(some 28), .fa 10 (.t 1), some (27, false)⟩,
  ⟨(some 29), .ld none (.t 28), some (27, false)⟩,
  ⟨(some 30), .mv (.t 3), some (27, false)⟩,
  ⟨(some 31), .iaS 6 (.t 29) (.t 30), some (27, false)⟩,
  ⟨(some 32), .fa 0 (.t 31), some (27, false)⟩,
  ⟨(some 33), .ld none (.t 32), some (27, false)⟩,
  ⟨(some 34), .fa 8 (.t 1), some (27, false)⟩,
  ⟨(some 35), .ld none (.t 34), some (27, false)⟩,
  ⟨(some 36), .len false (.t 35), some (27, false)⟩,
  ⟨(some 37), .bin .geq (.t 33) (.t 36), some (27, false)⟩,
  ⟨(some 38), .pick (.t 27) (.k (.c (.bool true))) (.t 37), none⟩]
abbrev o_rotaref02_ports_4 : List IOper := [⟨(some 2), .mv (.k (.c (.bool false))), none⟩]
abbrev o_rotaref02_ports_5 : List IOper := [⟨(some 9), .mv (.t 3), none⟩,
  ⟨(some 10), .bin .add (.t 9) (.k (.c (.int .i64 1))), none⟩,
  ⟨(some 3), .mv (.t 10), none⟩]
def b_rotaref02_ports_6 : IC := (.seq (.seq (.ops o_rotaref02_ports_2) (.cond (.t 8) .skip (.exit 0))) (.seq (.block 1 (.seq (.ops o_rotaref02_ports_3) (.cond (.t 38) (.seq (.ops o_rotaref02_ports_4) .ret) .skip))) (.ops o_rotaref02_ports_5)))
abbrev o_rotaref02_ports_7 : List IOper := [⟨(some 39), .fa 10 (.t 1), none⟩,
  ⟨(some 40), .ld none (.t 39), none⟩,
  ⟨(some 41), .len false (.t 40), none⟩,
  ⟨(some 42), .bin .leq (.t 41) (.k (.c (.int .i64 64))), none⟩,
  ⟨(some 2), .mv (.t 42), none⟩]
def c_rotaref02_ports : IC := (.seq (.ops o_rotaref02_ports_0) (.seq (.seq (.ops o_rotaref02_ports_1) (.block 0 (.loop b_rotaref02_ports_6))) (.seq (.ops o_rotaref02_ports_7) .ret)))
def i_rotaref02_ports : IFn := ⟨43, c_rotaref02_ports, [(2, none)]⟩

-- F 52 rota/rotaref02.links: bads 0, calls [76, 76, 72, 74]
abbrev o_rotaref02_links_0 : List IOper := [⟨(some 1), .box 28 (.t 0), none⟩,
  ⟨(some 2), .mv (.k (.c (.bool false))), none⟩]
abbrev o_rotaref02_links_1 : List IOper := [⟨(some 15), .fa 11 (.t 1), none⟩,
  ⟨(some 16), .ld none (.t 15), none⟩,
  ⟨(some 17), .len false (.t 16), none⟩,
  ⟨(some 18), .bin .gtr (.t 17) (.k (.c (.int .i64 64))), none⟩]
abbrev o_rotaref02_links_2 : List IOper := [⟨(some 2), .mv (.k (.c (.bool false))), none⟩]
abbrev o_rotaref02_links_3 : List IOper := [⟨(some 3), .mv (.k (.c (.sl none 0 0 false))), none⟩]
abbrev o_rotaref02_links_4 : List IOper := [⟨(some 4), .mv (.k (.c (.int .i64 0))), none⟩]
abbrev o_rotaref02_links_5 : List IOper := [⟨(some 19), .mv (.t 4), none⟩,
  ⟨(some 20), .fa 11 (.t 1), none⟩,
  ⟨(some 21), .ld none (.t 20), none⟩,
  ⟨(some 22), .len false (.t 21), none⟩,
  ⟨(some 23), .bin .lss (.t 19) (.t 22), none⟩]
abbrev o_rotaref02_links_6 : List IOper := [⟨(some 26), .fa 11 (.t 1), none⟩,
  ⟨(some 27), .ld none (.t 26), none⟩,
  ⟨(some 28), .mv (.t 4), none⟩,
  ⟨(some 29), .iaS 3 (.t 27) (.t 28), none⟩,
  ⟨(some 30), .ld (some 3) (.t 29), none⟩,
  ⟨(some 5), .new 93 (.agg [(.int .i64 0), (.sl none 0 0 false), (.int .i64 0)]), none⟩,
  ⟨none, .st 3 (.t 5) (.t 30), none⟩]
abbrev o_rotaref02_links_7 : List IOper := [⟨(some 31), .ld (some 12) (.t 1), none⟩,
  ⟨(some 32), .fa 0 (.t 5), none⟩,
  ⟨(some 33), .ld none (.t 32), none⟩,
  ⟨(some 34), .call (.k (.c (.fn fn_rotaref02_is [] []))) [(.t 31), (.t 33)], none⟩,
  ⟨(some 35), .un .not (.t 34), none⟩,
  ⟨(some 36), .mv (.t 35), none⟩,
  ⟨(some 37), .fa 10 (.t 1), some (36, false)⟩,
  ⟨(some 38), .ld none (.t 37), some (36, false)⟩,
  ⟨(some 39), .fa 0 (.t 5), some (36, false)⟩,
  ⟨(some 40), .ld none (.t 39), some (36, false)⟩,
  ⟨(some 41), .iaS 6 (.t 38) (.t 40), some (36, false)⟩,
  ⟨(some 42), .fa 2 (.t 41), some (36, false)⟩,
  ⟨(some 43), .ld none (.t 42), some (36, false)⟩,
  ⟨(some 44), .bin .neq (.t 43) (.k (.c (.int .i64 1))), some (36, false)⟩,
  ⟨(some 45), .pick (.t 36) (.k (.c (.bool true))) (.t 44), none⟩,
  ⟨(some 46), .mv (.t 45), none⟩,
  ⟨(some 47), .fa 1 (.t 5), some (46, false)⟩,
  ⟨(some 48), .ld none (.t 47), some (46, false)⟩,
  ⟨(some 49), .len false (.t 48), some (46, false)⟩,
  ⟨(some 50), .bin .eql (.t 49) (.k (.c (.int .i64 0))), some (46, false)⟩,
  ⟨(some 51), .pick (.t 46) (.k (.c (.bool true))) (.t 50), none⟩,
  ⟨(some 52), .mv (.t 51), none⟩,
  ⟨(some 53), .fa 2 (.t 5), some (52, false)⟩,
  ⟨(some 54), .ld none (.t 53), some (52, false)⟩,
  ⟨(some 55), .bin .lss (.t 54) (.k (.c (.int .i64 0))), some (52, false)⟩,
  ⟨(some 56), .pick (.t 52) (.k (.c (.bool true))) (.t 55), none⟩,
  ⟨(some 57), .mv (.t 56), none⟩,
  ⟨(some 58), .fa 2 (.t 5), some (57, false)⟩,
  ⟨(some 59), .ld none (.t 58), some (57, false)⟩,
  ⟨(some 60), .bin .gtr (.t 59) (.k (.c (.int .i64 64))), some (57, false)⟩,
  ⟨(some 61), .pick (.t 57) (.k (.c (.bool true))) (.t 60), none⟩,
  ⟨(some 62), .mv (.t 61), none⟩,
  ⟨(some 63), .fa 2 (.t 5), some (62, false)⟩,
  ⟨(some 64), .ld none (.t 63), some (62, false)⟩,
  ⟨(some 65), .bin .add (.t 64) (.k (.c (.int .i64 1))), some (62, false)⟩,
  ⟨(some 66), .fa 10 (.t 1), some (62, false)⟩,
  ⟨(some 67), .ld none (.t 66), some (62, false)⟩,
  ⟨(some 68), .fa 0 (.t 5), some (62, false)⟩,
  ⟨(some 69), .ld none (.t 68), some (62, false)⟩,
  ⟨(some 70), .iaS 6 (.t 67) (.t 69), some (62, false)⟩,
  ⟨(some 71), .fa 3 (.t 70), some (62, false)⟩,
  ⟨(some 72), .ld none (.t 71), some (62, false)⟩,
  ⟨(some 73), .bin .add (.t 65) (.t 72), some (62, false)⟩,
  ⟨(some 74), .bin .gtr (.t 73) (.k (.c (.int .i64 64))), some (62, false)⟩,
  ⟨(some 75), .pick (.t 62) (.k (.c (.bool true))) (.t 74), none⟩]
abbrev o_rotaref02_links_8 : List IOper := [⟨(some 2), .mv (.k (.c (.bool false))), none⟩]
abbrev o_rotaref02_links_9 : List IOper := [⟨(some 76), .mv (.t 3), none⟩,
  ⟨(some 77), .fa 0 (.t 5), none⟩,
  ⟨(some 78), .ld none (.t 77), none⟩,
  ⟨(some 79), .bsl 3 1 [(.int .i64 0)] [(0, 1, (.t 78))], none⟩,
  ⟨(some 80), .app 3 1 8 (.t 76) (.t 79), none⟩,
  ⟨(some 3), .mv (.t 80), none⟩]
abbrev o_rotaref02_links_10 : List IOper := [⟨(some 6), .mv (.k (.c (.int .i64 0))), none⟩]
abbrev o_rotaref02_links_11 : List IOper := [⟨(some 81), .mv (.t 6), none⟩,
  ⟨(some 82), .fa 1 (.t 5), none⟩,
  ⟨(some 83), .ld none (.t 82), none⟩,
  ⟨(some 84), .len false (.t 83), none⟩,
  ⟨(some 85), .bin .lss (.t 81) (.t 84), none⟩]
abbrev o_rotaref02_links_12 : List IOper := [⟨(some 88), .fa 1 (.t 5), none⟩,
  ⟨(some 89), .ld none (.t 88), none⟩,
  ⟨(some 90), .mv (.t 6), none⟩,
  ⟨(some 91), .iaS 1 (.t 89) (.t 90), none⟩,
  ⟨(some 92), .ld none (.t 91), none⟩,
  ⟨(some 7), .mv (.t 92), none⟩]
abbrev o_rotaref02_links_13 : List IOper := [⟨(some 93), .ld (some 12) (.t 1), none⟩,
  ⟨(some 94), .mv (.t 7), none⟩,
  ⟨(some 95), .call (.k (.c (.fn fn_rotaref02_is [] []))) [(.t 93), (.t 94)], none⟩,
  ⟨(some 96), .un .not (.t 95), none⟩,
  ⟨(some 97), .mv (.t 96), none⟩,
  ⟨(some 98), .fa 10 (.t 1), some (97, false)⟩,
  ⟨(some 99), .ld none (.t 98), some (97, false)⟩,
  ⟨(some 100), .mv (.t 7), some (97, false)⟩,
  ⟨(some 101), .iaS 6 (.t 99) (.t 100), some (97, false)⟩,
  ⟨(some 102), .fa 2 (.t 101), some (97, false)⟩,
  ⟨(some 103), .ld none (.t 102), some (97, false)⟩,
  ⟨(some 104), .bin .neq (.t 103) (.k (.c (.int .i64 2))), some (97, false)⟩,
  ⟨(some 105), .pick (.t 97) (.k (.c (.bool true))) (.t 104), none⟩,
  ⟨(some 106), .mv (.t 105), none⟩,
  ⟨(some 107), .fa 10 (.t 1), some (106, false)⟩,
  ⟨(some 108), .ld none (.t 107), some (106, false)⟩,
  ⟨(some 109), .mv (.t 7), some (106, false)⟩,
  ⟨(some 110), .iaS 6 (.t 108) (.t 109), some (106, false)⟩,
  ⟨(some 111), .fa 1 (.t 110), some (106, false)⟩,
  ⟨(some 112), .ld none (.t 111), some (106, false)⟩,
  ⟨(some 113), .fa 10 (.t 1), some (106, false)⟩,
  ⟨(some 114), .ld none (.t 113), some (106, false)⟩,
  ⟨(some 115), .fa 0 (.t 5), some (106, false)⟩,
  ⟨(some 116), .ld none (.t 115), some (106, false)⟩,
  ⟨(some 117), .iaS 6 (.t 114) (.t 116), some (106, false)⟩,
  ⟨(some 118), .fa 1 (.t 117), some (106, false)⟩,
  ⟨(some 119), .ld none (.t 118), some (106, false)⟩,
  ⟨(some 120), .bin .neq (.t 112) (.t 119), some (106, false)⟩,
  ⟨(some 121), .pick (.t 106) (.k (.c (.bool true))) (.t 120), none⟩,
  ⟨(some 122), .mv (.t 121), none⟩,
  ⟨(some 123), .fa 10 (.t 1), some (122, false)⟩,
  ⟨(some 124), .ld none (.t 123), some (122, false)⟩,
  ⟨(some 125), .mv (.t 7), some (122, false)⟩,
  ⟨(some 126), .iaS 6 (.t 124) (.t 125), some (122, false)⟩,
  ⟨(some 127), .fa 3 (.t 126), some (122, false)⟩,
  ⟨(some 128), .ld none (.t 127), some (122, false)⟩,
  ⟨(some 129), .fa 10 (.t 1), some (122, false)⟩,
  ⟨(some 130), .ld none (.t 129), some (122, false)⟩,
  ⟨(some 131), .fa 0 (.t 5), some (122, false)⟩,
  ⟨(some 132), .ld none (.t 131), some (122, false)⟩,
  ⟨(some 133), .iaS 6 (.t 130) (.t 132), some (122, false)⟩,
  ⟨(some 134), .fa 3 (.t 133), some (122, false)⟩,
  ⟨(some 135), .ld none (.t 134), some (122, false)⟩,
  ⟨(some 136), .bin .neq (.t 128) (.t 135), some (122, false)⟩,
  ⟨(some 137), .pick (.t 122) (.k (.c (.bool true))) (.t 136), none⟩]
abbrev o_rotaref02_links_14 : List IOper := [⟨(some 2), .mv (.k (.c (.bool false))), none⟩]
abbrev o_rotaref02_links_15 : List IOper := [⟨(some 138), .mv (.t 3), none⟩,
  ⟨(some 139), .mv (.t 7), none⟩,
  ⟨(some 140), .bsl 3 1 [(.int .i64 0)] [(0, 1, (.t 139))], none⟩,
  ⟨(some 141), .app 3 1 8 (.t 138) (.t 140), none⟩,
  ⟨(some 3), .mv (.t 141), none⟩]
abbrev o_rotaref02_links_16 : List IOper := [⟨(some 86), .mv (.t 6), none⟩,
  ⟨(some 87), .bin .add (.t 86) (.k (.c (.int .i64 1))), none⟩,
  ⟨(some 6), .mv (.t 87), none⟩]
def b_rotaref02_links_17 : IC := (.seq (.seq (.ops o_rotaref02_links_11) (.cond (.t 85) .skip (.exit 2))) (.seq (.block 3 (.seq (.ops o_rotaref02_links_12) (.seq (.seq (.ops o_rotaref02_links_13) (.cond (.t 137) (.seq (.ops o_rotaref02_links_14) .ret) .skip)) (.ops o_rotaref02_links_15)))) (.ops o_rotaref02_links_16)))
abbrev o_rotaref02_links_18 : List IOper := [⟨(some 142), .mv (.t 3), none⟩,
  ⟨(some 143), .len false (.t 142), none⟩,
  ⟨(some 144), .fa 10 (.t 1), none⟩,
  ⟨(some 145), .ld none (.t 144), none⟩,
  ⟨(some 146), .len false (.t 145), none⟩,
  ⟨(some 147), .bin .gtr (.t 143) (.t 146), none⟩]
abbrev o_rotaref02_links_19 : List IOper := [⟨(some 2), .mv (.k (.c (.bool false))), none⟩]
abbrev o_rotaref02_links_20 : List IOper := [⟨(some 24), .mv (.t 4), none⟩,
  ⟨(some 25), .bin .add (.t 24) (.k (.c (.int .i64 1))), none⟩,
  ⟨(some 4), .mv (.t 25), none⟩]
def b_rotaref02_links_21 : IC := (.seq (.seq (.ops o_rotaref02_links_5) (.cond (.t 23) .skip (.exit 0))) (.seq (.block 1 (.seq (.ops o_rotaref02_links_6) (.seq (.seq (.ops o_rotaref02_links_7) (.cond (.t 75) (.seq (.ops o_rotaref02_links_8) .ret) .skip)) (.seq (.ops o_rotaref02_links_9) (.seq (.seq (.ops o_rotaref02_links_10) (.block 2 (.loop b_rotaref02_links_17))) (.seq (.ops o_rotaref02_links_18) (.cond (.t 147) (.seq (.ops o_rotaref02_links_19) .ret) .skip))))))) (.ops o_rotaref02_links_20)))
abbrev o_rotaref02_links_22 : List IOper := [⟨(some 8), .mv (.k (.c (.int .i64 0))), none⟩]
abbrev o_rotaref02_links_23 : List IOper := [⟨(some 148), .mv (.t 8), none⟩,
  ⟨(some 149), .fa 10 (.t 1), none⟩,
  ⟨(some 150), .ld none (.t 149), none⟩,
  ⟨(some 151), .len false (.t 150), none⟩,
  ⟨(some 152), .bin .lss (.t 148) (.t 151), none⟩]
abbrev o_rotaref02_links_24 : List IOper := [⟨(some 155), .mv (.t 3), none⟩,
  ⟨(some 156), .mv (.t 8), none⟩,
  ⟨(some 157), .call (.k (.c (.fn fn_rotaref02_count [] []))) [(.t 155), (.t 156)], none⟩,
  ⟨(some 158), .bin .gtr (.t 157) (.k (.c (.int .i64 1))), none⟩]
abbrev o_rotaref02_links_25 : List IOper := [⟨(some 2), .mv (.k (.c (.bool false))), none⟩]
abbrev o_rotaref02_links_26 : List IOper := [⟨(some 153), .mv (.t 8), none⟩,
  ⟨(some 154), .bin .add (.t 153) (.k (.c (.int .i64 1))), none⟩,
  ⟨(some 8), .mv (.t 154), none⟩]
def b_rotaref02_links_27 : IC := (.seq (.seq (.ops o_rotaref02_links_23) (.cond (.t 152) .skip (.exit 4))) (.seq (.block 5 (.seq (.ops o_rotaref02_links_24) (.cond (.t 158) (.seq (.ops o_rotaref02_links_25) .ret) .skip))) (.ops o_rotaref02_links_26)))
abbrev o_rotaref02_links_28 : List IOper := [⟨(some 9), .mv (.k (.c (.int .i64 0))), none⟩]
abbrev o_rotaref02_links_29 : List IOper := [⟨(some 159), .mv (.t 9), none⟩,
  ⟨(some 160), .fa 11 (.t 1), none⟩,
  ⟨(some 161), .ld none (.t 160), none⟩,
  ⟨(some 162), .len false (.t 161), none⟩,
  ⟨(some 163), .bin .lss (.t 159) (.t 162), none⟩]
abbrev o_rotaref02_links_30 : List IOper := [⟨(some 10), .mv (.k (.c (.int .i64 0))), none⟩]
abbrev o_rotaref02_links_31 : List IOper := [⟨(some 166), .mv (.t 10), none⟩,
  ⟨(some 167), .mv (.t 9), none⟩,
  ⟨(some 168), .bin .lss (.t 166) (.t 167), none⟩]
abbrev o_rotaref02_links_32 : List IOper := [⟨(some 171), .fa 11 (.t 1), none⟩,
  ⟨(some 172), .ld none (.t 171), none⟩,
  ⟨(some 173), .mv (.t 9), none⟩,
  ⟨(some 174), .iaS 3 (.t 172) (.t 173), none⟩,
  ⟨(some 175), .ld (some 3) (.t 174), none⟩,
  ⟨(some 11), .new 93 (.agg [(.int .i64 0), (.sl none 0 0 false), (.int .i64 0)]), none⟩,
  ⟨none, .st 3 (.t 11) (.t 175), none⟩]
abbrev o_rotaref02_links_33 : List IOper := [⟨(some 176), .fa 11 (.t 1), none⟩,
  ⟨(some 177), .ld none (.t 176), none⟩,
  ⟨(some 178), .mv (.t 10), none⟩,
  ⟨(some 179), .iaS 3 (.t 177) (.t 178), none⟩,
  ⟨(some 180), .ld (some 3) (.t 179), none⟩,
  ⟨(some 12), .new 93 (.agg [(.int .i64 0), (.sl none 0 0 false), (.int .i64 0)]), none⟩,
  ⟨none, .st 3 (.t 12) (.t 180), none⟩]
abbrev o_rotaref02_links_34 : List IOper := [⟨(some 181), .fa 10 (.t 1), none⟩,
  ⟨(some 182), .ld none (.t 181), none⟩,
  ⟨(some 183), .fa 0 (.t 11), none⟩,
  ⟨(some 184), .ld none (.t 183), none⟩,
  ⟨(some 185), .iaS 6 (.t 182) (.t 184), none⟩,
  ⟨(some 186), .ld (some 6) (.t 185), none⟩,
  ⟨(some 13), .new 91 (.agg (List.replicate 6 (.int .i64 0))), none⟩,
  ⟨none, .st 6 (.t 13) (.t 186), none⟩]
abbrev o_rotaref02_links_35 : List IOper := [⟨(some 187), .fa 10 (.t 1), none⟩,
  ⟨(some 188), .ld none (.t 187), none⟩,
  ⟨(some 189), .fa 0 (.t 12), none⟩,
  ⟨(some 190), .ld none (.t 189), none⟩,
  ⟨(some 191), .iaS 6 (.t 188) (.t 190), none⟩,
  ⟨(some 192), .ld (some 6) (.t 191), none⟩,
  ⟨(some 14), .new 91 (.agg (List.replicate 6 (.int .i64 0))), none⟩,
  ⟨none, .st 6 (.t 14) (.t 192), none⟩]
abbrev o_rotaref02_links_36 : List IOper := [⟨(some 193), .fa 8 (.t 1), none⟩,
  ⟨(some 194), .ld none (.t 193), none⟩,
  ⟨(some 195), .fa 0 (.t 13), none⟩,
  ⟨(some 196), .ld none (.t 195), none⟩,
  ⟨(some 197), .iaS 3 (.t 194) (.t 196), none⟩,
  ⟨(some 198), .fa 0 (.t 197), none⟩,
  ⟨(some 199), .ld none (.t 198), none⟩,
  ⟨(some 200), .fa 8 (.t 1), none⟩,
  ⟨(some 201), .ld none (.t 200), none⟩,
  ⟨(some 202), .fa 0 (.t 14), none⟩,
  ⟨(some 203), .ld none (.t 202), none⟩,
  ⟨(some 204), .iaS 3 (.t 201) (.t 203), none⟩,
  ⟨(some 205), .fa 0 (.t 204), none⟩,
  ⟨(some 206), .ld none (.t 205), none⟩,
  ⟨(some 207), .bin .eql (.t 199) (.t 206), none⟩,
  ⟨(some 208), .mv (.t 207), none⟩,
  ⟨(some 209), .fa 2 (.t 11), some (208, true)⟩,
  ⟨(some 210), .ld none (.t 209), some (208, true)⟩,
  ⟨(some 211), .fa 2 (.t 11), some (208, true)⟩,
  ⟨(some 212), .ld none (.t 211), some (208, true)⟩,
  ⟨(some 213), .bin .add (.t 212) (.k (.c (.int .i64 1))), some (208, true)⟩,
  ⟨(some 214), .fa 3 (.t 13), some (208, true)⟩,
  ⟨(some 215), .ld none (.t 214), some (208, true)⟩,
  ⟨(some 216), .bin .add (.t 213) (.t 215), some (208, true)⟩,
  ⟨(some 217), .fa 2 (.t 12), some (208, true)⟩,
  ⟨(some 218), .ld none (.t 217), some (208, true)⟩,
  ⟨(some 219), .fa 2 (.t 12), some (208, true)⟩,
  ⟨(some 220), .ld none (.t 219), some (208, true)⟩,
  ⟨(some 221), .bin .add (.t 220) (.k (.c (.int .i64 1))), some (208, true)⟩,
  ⟨(some 222), .fa 3 (.t 14), some (208, true)⟩,
  ⟨(some 223), .ld none (.t 222), some (208, true)⟩,
  ⟨(some 224), .bin .add (.t 221) (.t 223), some (208, true)⟩,
  ⟨(some 225), .call (.k (.c (.fn fn_rotaref02_meet [] []))) [(.t 210), (.t 216), (.t 218), (.t 224)], some (208, true)⟩,
  ⟨(some 226), .pick (.t 208) (.t 225) (.k (.c (.bool false))), none⟩]
abbrev o_rotaref02_links_37 : List IOper := [⟨(some 2), .mv (.k (.c (.bool false))), none⟩]
abbrev o_rotaref02_links_38 : List IOper := [⟨(some 169), .mv (.t 10), none⟩,
  ⟨(some 170), .bin .add (.t 169) (.k (.c (.int .i64 1))), none⟩,
  ⟨(some 10), .mv (.t 170), none⟩]
def b_rotaref02_links_39 : IC := (.seq (.seq (.ops o_rotaref02_links_31) (.cond (.t 168) .skip (.exit 8))) (.seq (.block 9 (.seq (.ops o_rotaref02_links_32) (.seq (.ops o_rotaref02_links_33) (.seq (.ops o_rotaref02_links_34) (.seq (.ops o_rotaref02_links_35) (.seq (.ops o_rotaref02_links_36) (.cond (.t 226) (.seq (.ops o_rotaref02_links_37) .ret) .skip))))))) (.ops o_rotaref02_links_38)))
abbrev o_rotaref02_links_40 : List IOper := [⟨(some 164), .mv (.t 9), none⟩,
  ⟨(some 165), .bin .add (.t 164) (.k (.c (.int .i64 1))), none⟩,
  ⟨(some 9), .mv (.t 165), none⟩]
def b_rotaref02_links_41 : IC := (.seq (.seq (.ops o_rotaref02_links_29) (.cond (.t 163) .skip (.exit 6))) (.seq (.block 7 (.seq (.ops o_rotaref02_links_30) (.block 8 (.loop b_rotaref02_links_39)))) (.ops o_rotaref02_links_40)))
abbrev o_rotaref02_links_42 : List IOper := [⟨(some 2), .mv (.k (.c (.bool true))), none⟩]
def c_rotaref02_links : IC := (.seq (.ops o_rotaref02_links_0) (.seq (.seq (.ops o_rotaref02_links_1) (.cond (.t 18) (.seq (.ops o_rotaref02_links_2) .ret) .skip)) (.seq (.ops o_rotaref02_links_3) (.seq (.seq (.ops o_rotaref02_links_4) (.block 0 (.loop b_rotaref02_links_21))) (.seq (.seq (.ops o_rotaref02_links_22) (.block 4 (.loop b_rotaref02_links_27))) (.seq (.seq (.ops o_rotaref02_links_28) (.block 6 (.loop b_rotaref02_links_41))) (.seq (.ops o_rotaref02_links_42) .ret)))))))
def i_rotaref02_links : IFn := ⟨227, c_rotaref02_links, [(2, none)]⟩

-- F 53 rota/rotaref08.Cut: bads 0, calls []
abbrev o_rotaref08_Cut_0 : List IOper := [⟨(some 4), .mv (.k (.c (.int .i64 0))), none⟩]
abbrev o_rotaref08_Cut_1 : List IOper := [⟨(some 5), .mv (.t 0), none⟩,
  ⟨(some 6), .mv (.t 1), none⟩,
  ⟨(some 7), .bin .gtr (.t 5) (.t 6), none⟩]
abbrev o_rotaref08_Cut_2 : List IOper := [⟨(some 8), .mv (.t 1), none⟩,
  ⟨(some 4), .mv (.t 8), none⟩]
abbrev o_rotaref08_Cut_3 : List IOper := [⟨(some 9), .mv (.t 0), none⟩,
  ⟨(some 10), .mv (.t 1), none⟩,
  ⟨(some 11), .un .neg (.t 10), none⟩,
  ⟨(some 12), .bin .lss (.t 9) (.t 11), none⟩]
abbrev o_rotaref08_Cut_4 : List IOper := [⟨(some 13), .mv (.t 1), none⟩,
  ⟨(some 14), .un .neg (.t 13), none⟩,
  ⟨(some 4), .mv (.t 14), none⟩]
abbrev o_rotaref08_Cut_5 : List IOper := [⟨(some 15), .mv (.t 0), none⟩,
  ⟨(some 4), .mv (.t 15), none⟩]
def c_rotaref08_Cut : IC := (.seq (.ops o_rotaref08_Cut_0) (.seq (.seq (.ops o_rotaref08_Cut_1) (.cond (.t 7) (.seq (.ops o_rotaref08_Cut_2) .ret) .skip)) (.seq (.seq (.ops o_rotaref08_Cut_3) (.cond (.t 12) (.seq (.ops o_rotaref08_Cut_4) .ret) .skip)) (.seq (.ops o_rotaref08_Cut_5) .ret))))
def i_rotaref08_Cut : IFn := ⟨16, c_rotaref08_Cut, [(4, none)]⟩

-- F 54 rota/rotaref08.Is: bads 0, calls []
abbrev o_rotaref08_Is_0 : List IOper := [⟨(some 4), .mv (.k (.c (.bool false))), none⟩]
abbrev o_rotaref08_Is_1 : List IOper := [⟨(some 5), .mv (.k (.c (.int .i64 0))), none⟩]
abbrev o_rotaref08_Is_2 : List IOper := [⟨(some 6), .mv (.t 5), none⟩,
  ⟨(some 7), .mv (.t 1), none⟩,
  ⟨(some 8), .bin .lss (.t 6) (.t 7), none⟩]
abbrev o_rotaref08_Is_3 : List IOper := [⟨(some 11), .mv (.t 0), none⟩,
  ⟨(some 12), .bin .quo (.t 11) (.k (.c (.int .u16 2))), none⟩,
  ⟨(some 0), .mv (.t 12), none⟩]
abbrev o_rotaref08_Is_4 : List IOper := [⟨(some 9), .mv (.t 5), none⟩,
  ⟨(some 10), .bin .add (.t 9) (.k (.c (.int .i64 1))), none⟩,
  ⟨(some 5), .mv (.t 10), none⟩]
def b_rotaref08_Is_5 : IC := (.seq (.seq (.ops o_rotaref08_Is_2) (.cond (.t 8) .skip (.exit 0))) (.seq (.block 1 (.ops o_rotaref08_Is_3)) (.ops o_rotaref08_Is_4)))
abbrev o_rotaref08_Is_6 : List IOper := [⟨(some 13), .mv (.t 0), none⟩,
  ⟨(some 14), .bin .rem (.t 13) (.k (.c (.int .u16 2))), none⟩,
  ⟨(some 15), .bin .eql (.t 14) (.k (.c (.int .u16 1))), none⟩,
  ⟨(some 4), .mv (.t 15), none⟩]
def c_rotaref08_Is : IC := (.seq (.ops o_rotaref08_Is_0) (.seq (.seq (.ops o_rotaref08_Is_1) (.block 0 (.loop b_rotaref08_Is_5))) (.seq (.ops o_rotaref08_Is_6) .ret)))
def i_rotaref08_Is : IFn := ⟨16, c_rotaref08_Is, [(4, none)]⟩
end Go.Proofs.Yteiiddefimpplaa.AM.D08

