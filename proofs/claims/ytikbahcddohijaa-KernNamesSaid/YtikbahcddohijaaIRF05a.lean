/- The functions of these laws as the abstract machine's code, printed by a program of this claim's. -/
import Derived.Test.YtikbahcddohijaaA3
set_option linter.unusedVariables false
set_option linter.unusedSimpArgs false
set_option linter.unusedSectionVars false
namespace Go.Proofs.Ytikbahcddohijaa.AM.F05
open Go Go.Proofs.Ytikbahcddohijaa.AM
abbrev fn_rotalaw05_KernRegion : Nat := 3
abbrev fn_rotalaw05_KernStops : Nat := 4
abbrev fn_rotalaw05_KernPlays : Nat := 5
abbrev fn_rotalaw05_KernNames : Nat := 6
abbrev fn_rotalaw05_alive : Nat := 7
abbrev fn_rotalaw05_great : Nat := 8
abbrev fn_kern_New : Nat := 9
abbrev fn_kern_Kernel_Restart : Nat := 10
abbrev fn_kern_Kernel_Run : Nat := 11
abbrev fn_kern_Kernel_Memory : Nat := 12
abbrev fn_kern_Kernel_Faults : Nat := 13
abbrev fn_kern_Kernel_Stopped : Nat := 14
abbrev fn_rotaref02_Great : Nat := 15
abbrev fn_rotaref02_Twin : Nat := 16
abbrev fn_rotaref05_New : Nat := 17
abbrev fn_rotaref02_Same : Nat := 18
abbrev fn_rotalaw05_do : Nat := 19
abbrev fn_rotalaw05_two : Nat := 20
abbrev fn_rotalaw05_are : Nat := 21
abbrev fn_kern_Kernel_Take : Nat := 22
abbrev fn_kern_Kernel_Arrive : Nat := 23
abbrev fn_kern_Kernel_Waiting : Nat := 24
abbrev fn_config_Check : Nat := 25
abbrev fn_slices_Clone_api_Part_api_Part : Nat := 26
abbrev fn_slices_Clone_api_Port_api_Port : Nat := 27
abbrev fn_kern_Kernel_none : Nat := 28
abbrev fn_port_New : Nat := 29
abbrev fn_kern_Kernel_of : Nat := 30
abbrev fn_kern_window : Nat := 31
abbrev fn_kern_part_stopped : Nat := 32
abbrev fn_kern_Kernel_do : Nat := 33
abbrev fn_slices_Clone_byte_byte : Nat := 34
abbrev fn_rotaref02_Check : Nat := 35
abbrev fn_rotaref05_Kernel_Restart : Nat := 36
abbrev fn_rotaref02_ints : Nat := 37
abbrev fn_rotalaw05_twin : Nat := 38
abbrev fn_rotaref05_Kernel_Run : Nat := 39
abbrev fn_rotalaw05_results : Nat := 40
abbrev fn_rotalaw05_unlike : Nat := 41
abbrev fn_rotaref05_Kernel_Take : Nat := 42
abbrev fn_rotaref04_Twin : Nat := 43
abbrev fn_rotaref05_Kernel_Arrive : Nat := 44
abbrev fn_rotaref05_Kernel_Count : Nat := 45
abbrev fn_rotaref05_Kernel_Memory : Nat := 46
abbrev fn_rotaref05_Kernel_Waiting : Nat := 47
abbrev fn_rotalaw05_errs : Nat := 48
abbrev fn_kern_Kernel_box : Nat := 49
abbrev fn_port_Box_Take : Nat := 50
abbrev fn_port_Box_Arrive : Nat := 51
abbrev fn_port_Box_Len : Nat := 52
abbrev fn_config_fine : Nat := 53
abbrev fn_port_kinds : Nat := 54
abbrev fn_kern_window_1 : Nat := 55
abbrev fn_kern_part_read : Nat := 56
abbrev fn_kern_part_write : Nat := 57
abbrev fn_kern_Kernel_own : Nat := 58
abbrev fn_port_Box_Send : Nat := 59
abbrev fn_port_Box_Recv : Nat := 60
abbrev fn_rotaref02_nodes : Nat := 61
abbrev fn_rotaref02_clock : Nat := 62
abbrev fn_rotaref02_parts : Nat := 63
abbrev fn_rotaref02_windows : Nat := 64
abbrev fn_rotaref02_ports : Nat := 65
abbrev fn_rotaref02_links : Nat := 66
abbrev fn_rotaref04_New : Nat := 67
abbrev fn_rotaref05_Kernel_Part : Nat := 68
abbrev fn_rotaref05_Kernel_one : Nat := 69
abbrev fn_rotaref05_Kernel_Port : Nat := 70
abbrev fn_rotaref04_Box_Take : Nat := 71
abbrev fn_rotaref04_Box_Arrive : Nat := 72
abbrev fn_port_Box_is : Nat := 73
abbrev fn_config_nodes : Nat := 74
abbrev fn_config_clocks : Nat := 75
abbrev fn_config_parts : Nat := 76
abbrev fn_config_windows : Nat := 77
abbrev fn_config_ports : Nat := 78
abbrev fn_config_links : Nat := 79
abbrev fn_port_kinds_1 : Nat := 80
abbrev fn_port_kinds_2 : Nat := 81
abbrev fn_slices_Delete_byte_byte : Nat := 82
abbrev fn_port_kinds_3 : Nat := 83
abbrev fn_port_kinds_4 : Nat := 84
abbrev fn_port_kinds_5 : Nat := 85
abbrev fn_port_Box_all : Nat := 86
abbrev fn_port_kinds_6 : Nat := 87
abbrev fn_rotaref02_count : Nat := 88
abbrev fn_rotaref02_Precision : Nat := 89
abbrev fn_rotaref02_meet : Nat := 90
abbrev fn_rotaref02_Alone : Nat := 91
abbrev fn_rotaref02_is : Nat := 92
abbrev fn_rotaref04_Box_Send : Nat := 93
abbrev fn_rotaref04_Box_Recv : Nat := 94
abbrev fn_rotaref04_Box_get : Nat := 95
abbrev fn_rotaref04_Box_put : Nat := 96
abbrev fn_config_within : Nat := 97
abbrev fn_slices_Contains_int_int : Nat := 98
abbrev fn_config_Precision : Nat := 99
abbrev fn_config_pairs : Nat := 100
abbrev fn_config_meet : Nat := 101
abbrev fn_config_port : Nat := 102
abbrev fn_slices_Values_byte_byte : Nat := 103
abbrev fn_rotaref04_twins : Nat := 104
abbrev fn_slices_Index_int_int : Nat := 105
abbrev fn_config_pairs_1 : Nat := 106
abbrev fn_slices_Values_byte_byte_1 : Nat := 107

-- F 3 rota/rotalaw05.KernRegion: bads 0, calls [7, 8, 9, 10, 11, 12]
abbrev o_rotalaw05_KernRegion_0 : List IOper := [⟨(some 3), .box 28 (.t 0), none⟩,
  ⟨(some 6), .mv (.k (.c (.bool false))), none⟩]
abbrev o_rotalaw05_KernRegion_1 : List IOper := [⟨(some 21), .call (.k (.c (.fn fn_rotalaw05_alive [] []))) [], none⟩,
  ⟨(some 7), .mv (.t 21), none⟩]
abbrev o_rotalaw05_KernRegion_2 : List IOper := [⟨(some 22), .mv (.t 2), none⟩,
  ⟨(some 23), .call (.k (.c (.fn fn_rotalaw05_great [] []))) [(.t 22)], none⟩,
  ⟨(some 24), .mv (.t 23), none⟩,
  ⟨(some 25), .mv (.t 7), some (24, false)⟩,
  ⟨(some 26), .un .not (.t 25), some (24, false)⟩,
  ⟨(some 27), .pick (.t 24) (.k (.c (.bool true))) (.t 26), none⟩,
  ⟨(some 28), .mv (.t 27), none⟩,
  ⟨(some 29), .fa 8 (.t 3), some (28, false)⟩,
  ⟨(some 30), .ld none (.t 29), some (28, false)⟩,
  ⟨(some 31), .len false (.t 30), some (28, false)⟩,
  ⟨(some 32), .bin .gtr (.t 31) (.k (.c (.int .i64 40))), some (28, false)⟩,
  ⟨(some 33), .pick (.t 28) (.k (.c (.bool true))) (.t 32), none⟩,
  ⟨(some 34), .mv (.t 33), none⟩,
  ⟨(some 35), .fa 0 (.t 3), some (34, false)⟩,
  ⟨(some 36), .ld none (.t 35), some (34, false)⟩,
  ⟨(some 37), .bin .lss (.t 36) (.k (.c (.int .i64 1))), some (34, false)⟩,
  ⟨(some 38), .pick (.t 34) (.k (.c (.bool true))) (.t 37), none⟩,
  ⟨(some 39), .mv (.t 38), none⟩,
  ⟨(some 40), .fa 0 (.t 3), some (39, false)⟩,
  ⟨(some 41), .ld none (.t 40), some (39, false)⟩,
  ⟨(some 42), .bin .gtr (.t 41) (.k (.c (.int .i64 16))), some (39, false)⟩,
  ⟨(some 43), .pick (.t 39) (.k (.c (.bool true))) (.t 42), none⟩]
abbrev o_rotalaw05_KernRegion_3 : List IOper := [⟨(some 44), .mv (.t 7), none⟩,
  ⟨(some 6), .mv (.t 44), none⟩]
abbrev o_rotalaw05_KernRegion_4 : List IOper := [⟨(some 45), .mv (.t 1), none⟩,
  ⟨(some 46), .cv .i64 (.t 45), none⟩,
  ⟨(some 47), .fa 0 (.t 3), none⟩,
  ⟨(some 48), .ld none (.t 47), none⟩,
  ⟨(some 49), .bin .rem (.t 46) (.t 48), none⟩,
  ⟨(some 8), .mv (.t 49), none⟩]
abbrev o_rotalaw05_KernRegion_5 : List IOper := [⟨(some 51), .ld (some 12) (.t 3), none⟩,
  ⟨(some 52), .mv (.t 8), none⟩,
  ⟨(some 53), .call (.k (.c (.fn fn_kern_New [] []))) [(.t 51), (.t 52)], none⟩,
  ⟨(some 50), .mv (.t 53), none⟩,
  ⟨(some 54), .ext (.t 50) 0, none⟩,
  ⟨(some 55), .ext (.t 50) 1, none⟩,
  ⟨(some 9), .mv (.t 54), none⟩,
  ⟨(some 10), .mv (.t 55), none⟩]
abbrev o_rotalaw05_KernRegion_6 : List IOper := [⟨(some 56), .mv (.t 10), none⟩,
  ⟨(some 57), .bin .neq (.t 56) (.k (.c (.int .i64 0))), none⟩]
abbrev o_rotalaw05_KernRegion_7 : List IOper := [⟨(some 58), .mv (.t 7), none⟩,
  ⟨(some 6), .mv (.t 58), none⟩]
abbrev o_rotalaw05_KernRegion_8 : List IOper := [⟨(some 59), .fa 8 (.t 3), none⟩,
  ⟨(some 60), .ld none (.t 59), none⟩,
  ⟨(some 61), .len false (.t 60), none⟩,
  ⟨(some 62), .mksl 39 1 24 [(.sl none 0 0 false)] (.t 61) (.t 61), none⟩,
  ⟨(some 11), .mv (.t 62), none⟩]
abbrev o_rotalaw05_KernRegion_9 : List IOper := [⟨(some 63), .mv (.t 11), none⟩,
  ⟨(some 64), .len false (.t 63), none⟩,
  ⟨(some 65), .mv (.k (.c (.int .i64 0))), none⟩]
abbrev o_rotalaw05_KernRegion_10 : List IOper := [⟨(some 66), .bin .lss (.t 65) (.t 64), none⟩]
abbrev o_rotalaw05_KernRegion_11 : List IOper := [⟨(some 67), .mv (.t 65), none⟩,
  ⟨(some 12), .mv (.t 67), none⟩]
abbrev o_rotalaw05_KernRegion_12 : List IOper := [⟨(some 68), .fa 8 (.t 3), none⟩,
  ⟨(some 69), .ld none (.t 68), none⟩,
  ⟨(some 70), .mv (.t 12), none⟩,
  ⟨(some 71), .iaS 3 (.t 69) (.t 70), none⟩,
  ⟨(some 72), .fa 0 (.t 71), none⟩,
  ⟨(some 73), .ld none (.t 72), none⟩,
  ⟨(some 74), .mv (.t 8), none⟩,
  ⟨(some 75), .bin .eql (.t 73) (.t 74), none⟩]
abbrev o_rotalaw05_KernRegion_13 : List IOper := [⟨(some 76), .mv (.t 11), none⟩,
  ⟨(some 77), .mv (.t 12), none⟩,
  ⟨(some 78), .fa 8 (.t 3), none⟩,
  ⟨(some 79), .ld none (.t 78), none⟩,
  ⟨(some 80), .mv (.t 12), none⟩,
  ⟨(some 81), .iaS 3 (.t 79) (.t 80), none⟩,
  ⟨(some 82), .fa 2 (.t 81), none⟩,
  ⟨(some 83), .ld none (.t 82), none⟩,
  ⟨(some 84), .fa 8 (.t 3), none⟩,
  ⟨(some 85), .ld none (.t 84), none⟩,
  ⟨(some 86), .mv (.t 12), none⟩,
  ⟨(some 87), .iaS 3 (.t 85) (.t 86), none⟩,
  ⟨(some 88), .fa 1 (.t 87), none⟩,
  ⟨(some 89), .ld none (.t 88), none⟩,
  ⟨(some 90), .bin .sub (.t 83) (.t 89), none⟩,
  ⟨(some 91), .mksl 5 1 1 [(.int .u8 0)] (.t 90) (.t 90), none⟩,
  ⟨(some 92), .iaS 1 (.t 76) (.t 77), none⟩,
  ⟨none, .st 1 (.t 92) (.t 91), none⟩]
abbrev o_rotalaw05_KernRegion_14 : List IOper := [⟨(some 93), .bin .add (.t 65) (.k (.c (.int .i64 1))), none⟩,
  ⟨(some 65), .mv (.t 93), none⟩]
def b_rotalaw05_KernRegion_15 : IC := (.seq (.ops o_rotalaw05_KernRegion_10) (.seq (.cond (.t 66) .skip (.exit 0)) (.seq (.block 1 (.seq (.ops o_rotalaw05_KernRegion_11) (.seq (.ops o_rotalaw05_KernRegion_12) (.cond (.t 75) (.ops o_rotalaw05_KernRegion_13) .skip)))) (.ops o_rotalaw05_KernRegion_14))))
abbrev o_rotalaw05_KernRegion_16 : List IOper := [⟨(some 94), .mv (.t 2), none⟩,
  ⟨(some 95), .len false (.t 94), none⟩,
  ⟨(some 96), .mv (.k (.c (.int .i64 0))), none⟩]
abbrev o_rotalaw05_KernRegion_17 : List IOper := [⟨(some 97), .bin .lss (.t 96) (.t 95), none⟩]
abbrev o_rotalaw05_KernRegion_18 : List IOper := [⟨(some 98), .mv (.t 96), none⟩,
  ⟨(some 13), .mv (.t 98), none⟩]
abbrev o_rotalaw05_KernRegion_19 : List IOper := [⟨(some 99), .mv (.t 2), none⟩,
  ⟨(some 100), .mv (.t 13), none⟩,
  ⟨(some 101), .iaS 5 (.t 99) (.t 100), none⟩,
  ⟨(some 102), .ld (some 5) (.t 101), none⟩,
  ⟨(some 14), .new 42 (.agg [(.int .i64 0), (.int .i64 0), (.int .i64 0), (.sl none 0 0 false), (.sl none 0 0 false)]), none⟩,
  ⟨none, .st 5 (.t 14) (.t 102), none⟩]
abbrev o_rotalaw05_KernRegion_20 : List IOper := [⟨(some 103), .fa 0 (.t 14), none⟩,
  ⟨(some 104), .ld none (.t 103), none⟩,
  ⟨(some 105), .bin .eql (.t 104) (.k (.c (.int .i64 3))), none⟩]
abbrev o_rotalaw05_KernRegion_21 : List IOper := [⟨(some 106), .mv (.t 9), none⟩,
  ⟨(some 107), .call (.k (.c (.fn fn_kern_Kernel_Restart [] []))) [(.t 106)], none⟩]
abbrev o_rotalaw05_KernRegion_22 : List IOper := [⟨(some 108), .mv (.t 11), none⟩,
  ⟨(some 109), .len false (.t 108), none⟩,
  ⟨(some 110), .mv (.k (.c (.int .i64 0))), none⟩]
abbrev o_rotalaw05_KernRegion_23 : List IOper := [⟨(some 111), .bin .lss (.t 110) (.t 109), none⟩]
abbrev o_rotalaw05_KernRegion_24 : List IOper := [⟨(some 112), .mv (.t 110), none⟩,
  ⟨(some 15), .mv (.t 112), none⟩]
abbrev o_rotalaw05_KernRegion_25 : List IOper := [⟨(some 113), .mv (.t 11), none⟩,
  ⟨(some 114), .mv (.t 15), none⟩,
  ⟨(some 115), .mv (.t 11), none⟩,
  ⟨(some 116), .mv (.t 15), none⟩,
  ⟨(some 117), .iaS 1 (.t 115) (.t 116), none⟩,
  ⟨(some 118), .ld none (.t 117), none⟩,
  ⟨(some 119), .len false (.t 118), none⟩,
  ⟨(some 120), .mksl 5 1 1 [(.int .u8 0)] (.t 119) (.t 119), none⟩,
  ⟨(some 121), .iaS 1 (.t 113) (.t 114), none⟩,
  ⟨none, .st 1 (.t 121) (.t 120), none⟩]
abbrev o_rotalaw05_KernRegion_26 : List IOper := [⟨(some 122), .bin .add (.t 110) (.k (.c (.int .i64 1))), none⟩,
  ⟨(some 110), .mv (.t 122), none⟩]
def b_rotalaw05_KernRegion_27 : IC := (.seq (.ops o_rotalaw05_KernRegion_23) (.seq (.cond (.t 111) .skip (.exit 4)) (.seq (.block 5 (.seq (.ops o_rotalaw05_KernRegion_24) (.ops o_rotalaw05_KernRegion_25))) (.ops o_rotalaw05_KernRegion_26))))
abbrev o_rotalaw05_KernRegion_28 : List IOper := [⟨(some 123), .fa 0 (.t 14), none⟩,
  ⟨(some 124), .ld none (.t 123), none⟩,
  ⟨(some 125), .bin .neq (.t 124) (.k (.c (.int .i64 0))), none⟩]
abbrev o_rotalaw05_KernRegion_29 : List IOper := [⟨(some 127), .mv (.t 9), none⟩,
  ⟨(some 128), .fa 1 (.t 14), none⟩,
  ⟨(some 129), .ld none (.t 128), none⟩,
  ⟨(some 130), .fa 2 (.t 14), none⟩,
  ⟨(some 131), .ld none (.t 130), none⟩,
  ⟨(some 132), .fa 4 (.t 14), none⟩,
  ⟨(some 133), .ld none (.t 132), none⟩,
  ⟨(some 134), .call (.k (.c (.fn fn_kern_Kernel_Run [] []))) [(.t 127), (.t 129), (.t 131), (.t 133)], none⟩,
  ⟨(some 126), .mv (.t 134), none⟩,
  ⟨(some 135), .ext (.t 126) 0, none⟩,
  ⟨(some 136), .ext (.t 126) 1, none⟩,
  ⟨(some 16), .mv (.t 135), none⟩,
  ⟨(some 17), .mv (.t 136), none⟩]
abbrev o_rotalaw05_KernRegion_30 : List IOper := [⟨(some 137), .mv (.t 17), none⟩,
  ⟨(some 138), .mv (.t 16), none⟩,
  ⟨(some 139), .len false (.t 138), none⟩,
  ⟨(some 140), .bin .neq (.t 137) (.t 139), none⟩,
  ⟨(some 141), .mv (.t 140), none⟩,
  ⟨(some 142), .mv (.t 17), some (141, false)⟩,
  ⟨(some 143), .fa 7 (.t 3), some (141, false)⟩,
  ⟨(some 144), .ld none (.t 143), some (141, false)⟩,
  ⟨(some 145), .bin .gtr (.t 142) (.t 144), some (141, false)⟩,
  ⟨(some 146), .pick (.t 141) (.k (.c (.bool true))) (.t 145), none⟩,
  ⟨(some 147), .mv (.t 146), none⟩,
  ⟨(some 148), .mv (.t 17), some (147, false)⟩,
  ⟨(some 149), .fa 4 (.t 14), some (147, false)⟩,
  ⟨(some 150), .ld none (.t 149), some (147, false)⟩,
  ⟨(some 151), .len false (.t 150), some (147, false)⟩,
  ⟨(some 152), .bin .gtr (.t 148) (.t 151), some (147, false)⟩,
  ⟨(some 153), .pick (.t 147) (.k (.c (.bool true))) (.t 152), none⟩]
abbrev o_rotalaw05_KernRegion_31 : List IOper := [⟨(some 6), .mv (.k (.c (.bool false))), none⟩]
abbrev o_rotalaw05_KernRegion_32 : List IOper := [⟨(some 154), .mv (.t 16), none⟩,
  ⟨(some 155), .len false (.t 154), none⟩,
  ⟨(some 156), .mv (.k (.c (.int .i64 0))), none⟩]
abbrev o_rotalaw05_KernRegion_33 : List IOper := [⟨(some 157), .bin .lss (.t 156) (.t 155), none⟩]
abbrev o_rotalaw05_KernRegion_34 : List IOper := [⟨(some 158), .mv (.t 156), none⟩,
  ⟨(some 18), .mv (.t 158), none⟩]
abbrev o_rotalaw05_KernRegion_35 : List IOper := [⟨(some 159), .fa 4 (.t 14), none⟩,
  ⟨(some 160), .ld none (.t 159), none⟩,
  ⟨(some 161), .mv (.t 18), none⟩,
  ⟨(some 162), .iaS 5 (.t 160) (.t 161), none⟩,
  ⟨(some 163), .ld (some 5) (.t 162), none⟩,
  ⟨(some 19), .new 48 (.agg [(.int .i64 0), (.int .i64 0), (.int .u8 0), (.int .i64 0), (.sl none 0 0 false)]), none⟩,
  ⟨none, .st 5 (.t 19) (.t 163), none⟩]
abbrev o_rotalaw05_KernRegion_36 : List IOper := [⟨(some 164), .fa 0 (.t 19), none⟩,
  ⟨(some 165), .ld none (.t 164), none⟩,
  ⟨(some 166), .bin .eql (.t 165) (.k (.c (.int .i64 2))), none⟩,
  ⟨(some 167), .mv (.t 166), none⟩,
  ⟨(some 168), .mv (.t 16), some (167, true)⟩,
  ⟨(some 169), .mv (.t 18), some (167, true)⟩,
  ⟨(some 170), .iaS 3 (.t 168) (.t 169), some (167, true)⟩,
  ⟨(some 171), .fa 1 (.t 170), some (167, true)⟩,
  ⟨(some 172), .ld none (.t 171), some (167, true)⟩,
  ⟨(some 173), .bin .eql (.t 172) (.k (.c (.int .i64 0))), some (167, true)⟩,
  ⟨(some 174), .pick (.t 167) (.t 173) (.k (.c (.bool false))), none⟩]
abbrev o_rotalaw05_KernRegion_37 : List IOper := [⟨(some 175), .mv (.t 11), none⟩,
  ⟨(some 176), .fa 1 (.t 14), none⟩,
  ⟨(some 177), .ld none (.t 176), none⟩,
  ⟨(some 178), .iaS 1 (.t 175) (.t 177), none⟩,
  ⟨(some 179), .ld none (.t 178), none⟩,
  ⟨(some 180), .fa 1 (.t 19), none⟩,
  ⟨(some 181), .ld none (.t 180), none⟩,
  ⟨(some 182), .fa 2 (.t 19), none⟩,
  ⟨(some 183), .ld none (.t 182), none⟩,
  ⟨(some 184), .iaS 1 (.t 179) (.t 181), none⟩,
  ⟨none, .st 1 (.t 184) (.t 183), none⟩]
abbrev o_rotalaw05_KernRegion_38 : List IOper := [⟨(some 185), .fa 0 (.t 19), none⟩,
  ⟨(some 186), .ld none (.t 185), none⟩,
  ⟨(some 187), .bin .eql (.t 186) (.k (.c (.int .i64 1))), none⟩,
  ⟨(some 188), .mv (.t 187), none⟩,
  ⟨(some 189), .mv (.t 16), some (188, true)⟩,
  ⟨(some 190), .mv (.t 18), some (188, true)⟩,
  ⟨(some 191), .iaS 3 (.t 189) (.t 190), some (188, true)⟩,
  ⟨(some 192), .fa 1 (.t 191), some (188, true)⟩,
  ⟨(some 193), .ld none (.t 192), some (188, true)⟩,
  ⟨(some 194), .bin .eql (.t 193) (.k (.c (.int .i64 0))), some (188, true)⟩,
  ⟨(some 195), .pick (.t 188) (.t 194) (.k (.c (.bool false))), none⟩,
  ⟨(some 196), .mv (.t 195), none⟩,
  ⟨(some 197), .mv (.t 16), some (196, true)⟩,
  ⟨(some 198), .mv (.t 18), some (196, true)⟩,
  ⟨(some 199), .iaS 3 (.t 197) (.t 198), some (196, true)⟩,
  ⟨(some 200), .fa 2 (.t 199), some (196, true)⟩,
  ⟨(some 201), .ld none (.t 200), some (196, true)⟩,
  ⟨(some 202), .len false (.t 201), some (196, true)⟩,
  ⟨(some 203), .bin .neq (.t 202) (.k (.c (.int .i64 1))), some (196, true)⟩,
  ⟨(some 204), .mv (.t 203), some (196, true)⟩,
  ⟨(some 205), .mv (.t 16), some (204, false)⟩,
  ⟨(some 206), .mv (.t 18), some (204, false)⟩,
  ⟨(some 207), .iaS 3 (.t 205) (.t 206), some (204, false)⟩,
  ⟨(some 208), .fa 2 (.t 207), some (204, false)⟩,
  ⟨(some 209), .ld none (.t 208), some (204, false)⟩,
  ⟨(some 210), .iaS 1 (.t 209) (.k (.c (.int .i64 0))), some (204, false)⟩,
  ⟨(some 211), .ld none (.t 210), some (204, false)⟩,
  ⟨(some 212), .mv (.t 11), some (204, false)⟩,
  ⟨(some 213), .fa 1 (.t 14), some (204, false)⟩,
  ⟨(some 214), .ld none (.t 213), some (204, false)⟩,
  ⟨(some 215), .iaS 1 (.t 212) (.t 214), some (204, false)⟩,
  ⟨(some 216), .ld none (.t 215), some (204, false)⟩,
  ⟨(some 217), .fa 1 (.t 19), some (204, false)⟩,
  ⟨(some 218), .ld none (.t 217), some (204, false)⟩,
  ⟨(some 219), .iaS 1 (.t 216) (.t 218), some (204, false)⟩,
  ⟨(some 220), .ld none (.t 219), some (204, false)⟩,
  ⟨(some 221), .bin .neq (.t 211) (.t 220), some (204, false)⟩,
  ⟨(some 222), .pick (.t 204) (.k (.c (.bool true))) (.t 221), some (196, true)⟩,
  ⟨(some 223), .pick (.t 196) (.t 222) (.k (.c (.bool false))), none⟩]
abbrev o_rotalaw05_KernRegion_39 : List IOper := [⟨(some 6), .mv (.k (.c (.bool false))), none⟩]
abbrev o_rotalaw05_KernRegion_40 : List IOper := [⟨(some 224), .bin .add (.t 156) (.k (.c (.int .i64 1))), none⟩,
  ⟨(some 156), .mv (.t 224), none⟩]
def b_rotalaw05_KernRegion_41 : IC := (.seq (.ops o_rotalaw05_KernRegion_33) (.seq (.cond (.t 157) .skip (.exit 6)) (.seq (.block 7 (.seq (.ops o_rotalaw05_KernRegion_34) (.seq (.ops o_rotalaw05_KernRegion_35) (.seq (.seq (.ops o_rotalaw05_KernRegion_36) (.cond (.t 174) (.ops o_rotalaw05_KernRegion_37) .skip)) (.seq (.ops o_rotalaw05_KernRegion_38) (.cond (.t 223) (.seq (.ops o_rotalaw05_KernRegion_39) .ret) .skip)))))) (.ops o_rotalaw05_KernRegion_40))))
abbrev o_rotalaw05_KernRegion_42 : List IOper := [⟨(some 225), .bin .add (.t 96) (.k (.c (.int .i64 1))), none⟩,
  ⟨(some 96), .mv (.t 225), none⟩]
def b_rotalaw05_KernRegion_43 : IC := (.seq (.ops o_rotalaw05_KernRegion_17) (.seq (.cond (.t 97) .skip (.exit 2)) (.seq (.block 3 (.seq (.ops o_rotalaw05_KernRegion_18) (.seq (.ops o_rotalaw05_KernRegion_19) (.seq (.seq (.ops o_rotalaw05_KernRegion_20) (.cond (.t 105) (.seq (.ops o_rotalaw05_KernRegion_21) (.seq (.ops o_rotalaw05_KernRegion_22) (.block 4 (.loop b_rotalaw05_KernRegion_27)))) .skip)) (.seq (.seq (.ops o_rotalaw05_KernRegion_28) (.cond (.t 125) (.exit 3) .skip)) (.seq (.ops o_rotalaw05_KernRegion_29) (.seq (.seq (.ops o_rotalaw05_KernRegion_30) (.cond (.t 153) (.seq (.ops o_rotalaw05_KernRegion_31) .ret) .skip)) (.seq (.ops o_rotalaw05_KernRegion_32) (.block 6 (.loop b_rotalaw05_KernRegion_41)))))))))) (.ops o_rotalaw05_KernRegion_42))))
abbrev o_rotalaw05_KernRegion_44 : List IOper := [⟨(some 226), .mv (.t 11), none⟩,
  ⟨(some 227), .len false (.t 226), none⟩,
  ⟨(some 228), .mv (.k (.c (.int .i64 0))), none⟩]
abbrev o_rotalaw05_KernRegion_45 : List IOper := [⟨(some 229), .bin .lss (.t 228) (.t 227), none⟩]
abbrev o_rotalaw05_KernRegion_46 : List IOper := [⟨(some 230), .mv (.t 228), none⟩,
  ⟨(some 20), .mv (.t 230), none⟩]
abbrev o_rotalaw05_KernRegion_47 : List IOper := [⟨(some 236), .mv (.t 20), none⟩,
  ⟨(some 235), .mv (.t 11), none⟩,
  ⟨(some 237), .iaS 1 (.t 235) (.t 236), none⟩,
  ⟨(some 238), .ld none (.t 237), none⟩,
  ⟨(some 239), .b2s (.t 238), none⟩,
  ⟨(some 232), .mv (.t 20), none⟩,
  ⟨(some 231), .mv (.t 9), none⟩,
  ⟨(some 233), .call (.k (.c (.fn fn_kern_Kernel_Memory [] []))) [(.t 231), (.t 232)], none⟩,
  ⟨none, .same (some none) (.t 237) (.t 238), none⟩,
  ⟨none, .same none (.t 238) (.t 239), none⟩,
  ⟨(some 234), .b2s (.t 233), none⟩,
  ⟨(some 240), .bin .neq (.t 234) (.t 239), none⟩]
abbrev o_rotalaw05_KernRegion_48 : List IOper := [⟨(some 6), .mv (.k (.c (.bool false))), none⟩]
abbrev o_rotalaw05_KernRegion_49 : List IOper := [⟨(some 241), .bin .add (.t 228) (.k (.c (.int .i64 1))), none⟩,
  ⟨(some 228), .mv (.t 241), none⟩]
def b_rotalaw05_KernRegion_50 : IC := (.seq (.ops o_rotalaw05_KernRegion_45) (.seq (.cond (.t 229) .skip (.exit 8)) (.seq (.block 9 (.seq (.ops o_rotalaw05_KernRegion_46) (.seq (.ops o_rotalaw05_KernRegion_47) (.cond (.t 240) (.seq (.ops o_rotalaw05_KernRegion_48) .ret) .skip)))) (.ops o_rotalaw05_KernRegion_49))))
abbrev o_rotalaw05_KernRegion_51 : List IOper := [⟨(some 242), .mv (.t 7), none⟩,
  ⟨(some 6), .mv (.t 242), none⟩]
def c_rotalaw05_KernRegion : IC := (.seq (.ops o_rotalaw05_KernRegion_0) (.seq (.ops o_rotalaw05_KernRegion_1) (.seq (.seq (.ops o_rotalaw05_KernRegion_2) (.cond (.t 43) (.seq (.ops o_rotalaw05_KernRegion_3) .ret) .skip)) (.seq (.ops o_rotalaw05_KernRegion_4) (.seq (.ops o_rotalaw05_KernRegion_5) (.seq (.seq (.ops o_rotalaw05_KernRegion_6) (.cond (.t 57) (.seq (.ops o_rotalaw05_KernRegion_7) .ret) .skip)) (.seq (.ops o_rotalaw05_KernRegion_8) (.seq (.seq (.ops o_rotalaw05_KernRegion_9) (.block 0 (.loop b_rotalaw05_KernRegion_15))) (.seq (.seq (.ops o_rotalaw05_KernRegion_16) (.block 2 (.loop b_rotalaw05_KernRegion_43))) (.seq (.seq (.ops o_rotalaw05_KernRegion_44) (.block 8 (.loop b_rotalaw05_KernRegion_50))) (.seq (.ops o_rotalaw05_KernRegion_51) .ret)))))))))))
def i_rotalaw05_KernRegion : IFn := ⟨243, c_rotalaw05_KernRegion, [(6, none)]⟩

-- F 4 rota/rotalaw05.KernStops: bads 0, calls [7, 9, 11, 13, 14, 14, 13, 10, 14, 13]
abbrev o_rotalaw05_KernStops_0 : List IOper := [⟨(some 3), .box 28 (.t 0), none⟩,
  ⟨(some 6), .mv (.k (.c (.bool false))), none⟩]
abbrev o_rotalaw05_KernStops_1 : List IOper := [⟨(some 18), .call (.k (.c (.fn fn_rotalaw05_alive [] []))) [], none⟩,
  ⟨(some 7), .mv (.t 18), none⟩]
abbrev o_rotalaw05_KernStops_2 : List IOper := [⟨(some 19), .mv (.t 2), none⟩,
  ⟨(some 20), .len false (.t 19), none⟩,
  ⟨(some 21), .bin .gtr (.t 20) (.k (.c (.int .i64 300))), none⟩,
  ⟨(some 22), .mv (.t 21), none⟩,
  ⟨(some 23), .mv (.t 7), some (22, false)⟩,
  ⟨(some 24), .un .not (.t 23), some (22, false)⟩,
  ⟨(some 25), .pick (.t 22) (.k (.c (.bool true))) (.t 24), none⟩,
  ⟨(some 26), .mv (.t 25), none⟩,
  ⟨(some 27), .fa 8 (.t 3), some (26, false)⟩,
  ⟨(some 28), .ld none (.t 27), some (26, false)⟩,
  ⟨(some 29), .len false (.t 28), some (26, false)⟩,
  ⟨(some 30), .bin .eql (.t 29) (.k (.c (.int .i64 0))), some (26, false)⟩,
  ⟨(some 31), .pick (.t 26) (.k (.c (.bool true))) (.t 30), none⟩,
  ⟨(some 32), .mv (.t 31), none⟩,
  ⟨(some 33), .fa 8 (.t 3), some (32, false)⟩,
  ⟨(some 34), .ld none (.t 33), some (32, false)⟩,
  ⟨(some 35), .len false (.t 34), some (32, false)⟩,
  ⟨(some 36), .bin .gtr (.t 35) (.k (.c (.int .i64 40))), some (32, false)⟩,
  ⟨(some 37), .pick (.t 32) (.k (.c (.bool true))) (.t 36), none⟩]
abbrev o_rotalaw05_KernStops_3 : List IOper := [⟨(some 38), .mv (.t 7), none⟩,
  ⟨(some 6), .mv (.t 38), none⟩]
abbrev o_rotalaw05_KernStops_4 : List IOper := [⟨(some 39), .mv (.t 1), none⟩,
  ⟨(some 40), .cv .i64 (.t 39), none⟩,
  ⟨(some 41), .fa 8 (.t 3), none⟩,
  ⟨(some 42), .ld none (.t 41), none⟩,
  ⟨(some 43), .len false (.t 42), none⟩,
  ⟨(some 44), .bin .rem (.t 40) (.t 43), none⟩,
  ⟨(some 8), .mv (.t 44), none⟩]
abbrev o_rotalaw05_KernStops_5 : List IOper := [⟨(some 46), .ld (some 12) (.t 3), none⟩,
  ⟨(some 47), .fa 8 (.t 3), none⟩,
  ⟨(some 48), .ld none (.t 47), none⟩,
  ⟨(some 49), .mv (.t 8), none⟩,
  ⟨(some 50), .iaS 3 (.t 48) (.t 49), none⟩,
  ⟨(some 51), .fa 0 (.t 50), none⟩,
  ⟨(some 52), .ld none (.t 51), none⟩,
  ⟨(some 53), .call (.k (.c (.fn fn_kern_New [] []))) [(.t 46), (.t 52)], none⟩,
  ⟨(some 45), .mv (.t 53), none⟩,
  ⟨(some 54), .ext (.t 45) 0, none⟩,
  ⟨(some 55), .ext (.t 45) 1, none⟩,
  ⟨(some 9), .mv (.t 54), none⟩,
  ⟨(some 10), .mv (.t 55), none⟩]
abbrev o_rotalaw05_KernStops_6 : List IOper := [⟨(some 56), .mv (.t 10), none⟩,
  ⟨(some 57), .bin .neq (.t 56) (.k (.c (.int .i64 0))), none⟩]
abbrev o_rotalaw05_KernStops_7 : List IOper := [⟨(some 58), .mv (.t 7), none⟩,
  ⟨(some 6), .mv (.t 58), none⟩]
abbrev o_rotalaw05_KernStops_8 : List IOper := [⟨(some 11), .mv (.k (.c (.int .i64 0))), none⟩]
abbrev o_rotalaw05_KernStops_9 : List IOper := [⟨(some 59), .mv (.t 2), none⟩,
  ⟨(some 60), .len false (.t 59), none⟩,
  ⟨(some 61), .mv (.k (.c (.int .i64 0))), none⟩]
abbrev o_rotalaw05_KernStops_10 : List IOper := [⟨(some 62), .bin .lss (.t 61) (.t 60), none⟩]
abbrev o_rotalaw05_KernStops_11 : List IOper := [⟨(some 63), .mv (.t 61), none⟩,
  ⟨(some 12), .mv (.t 63), none⟩]
abbrev o_rotalaw05_KernStops_12 : List IOper := [⟨(some 64), .mv (.t 2), none⟩,
  ⟨(some 65), .mv (.t 12), none⟩,
  ⟨(some 66), .iaS 1 (.t 64) (.t 65), none⟩,
  ⟨(some 67), .ld none (.t 66), none⟩,
  ⟨(some 68), .len false (.t 67), none⟩,
  ⟨(some 69), .bin .gtr (.t 68) (.k (.c (.int .i64 100))), none⟩]
abbrev o_rotalaw05_KernStops_13 : List IOper := [⟨(some 70), .mv (.t 7), none⟩,
  ⟨(some 6), .mv (.t 70), none⟩]
abbrev o_rotalaw05_KernStops_14 : List IOper := [⟨(some 72), .mv (.t 9), none⟩,
  ⟨(some 73), .mv (.t 8), none⟩,
  ⟨(some 74), .mv (.t 12), none⟩,
  ⟨(some 75), .mv (.t 2), none⟩,
  ⟨(some 76), .mv (.t 12), none⟩,
  ⟨(some 77), .iaS 1 (.t 75) (.t 76), none⟩,
  ⟨(some 78), .ld none (.t 77), none⟩,
  ⟨(some 79), .call (.k (.c (.fn fn_kern_Kernel_Run [] []))) [(.t 72), (.t 73), (.t 74), (.t 78)], none⟩,
  ⟨(some 71), .mv (.t 79), none⟩,
  ⟨(some 80), .ext (.t 71) 0, none⟩,
  ⟨(some 81), .ext (.t 71) 1, none⟩,
  ⟨(some 13), .mv (.t 80), none⟩,
  ⟨(some 14), .mv (.t 81), none⟩]
abbrev o_rotalaw05_KernStops_15 : List IOper := [⟨(some 15), .mv (.k (.c (.int .i64 0))), none⟩]
abbrev o_rotalaw05_KernStops_16 : List IOper := [⟨(some 82), .mv (.t 15), none⟩,
  ⟨(some 83), .mv (.t 2), none⟩,
  ⟨(some 84), .mv (.t 12), none⟩,
  ⟨(some 85), .iaS 1 (.t 83) (.t 84), none⟩,
  ⟨(some 86), .ld none (.t 85), none⟩,
  ⟨(some 87), .len false (.t 86), none⟩,
  ⟨(some 88), .bin .lss (.t 82) (.t 87), none⟩,
  ⟨(some 89), .mv (.t 88), none⟩,
  ⟨(some 90), .mv (.t 15), some (89, true)⟩,
  ⟨(some 91), .fa 7 (.t 3), some (89, true)⟩,
  ⟨(some 92), .ld none (.t 91), some (89, true)⟩,
  ⟨(some 93), .bin .lss (.t 90) (.t 92), some (89, true)⟩,
  ⟨(some 94), .pick (.t 89) (.t 93) (.k (.c (.bool false))), none⟩]
abbrev o_rotalaw05_KernStops_17 : List IOper := [⟨(some 95), .mv (.t 15), none⟩,
  ⟨(some 96), .bin .add (.t 95) (.k (.c (.int .i64 1))), none⟩,
  ⟨(some 15), .mv (.t 96), none⟩]
abbrev o_rotalaw05_KernStops_18 : List IOper := [⟨(some 97), .mv (.t 2), none⟩,
  ⟨(some 98), .mv (.t 12), none⟩,
  ⟨(some 99), .iaS 1 (.t 97) (.t 98), none⟩,
  ⟨(some 100), .ld none (.t 99), none⟩,
  ⟨(some 101), .mv (.t 15), none⟩,
  ⟨(some 102), .bin .sub (.t 101) (.k (.c (.int .i64 1))), none⟩,
  ⟨(some 103), .iaS 5 (.t 100) (.t 102), none⟩,
  ⟨(some 104), .fa 0 (.t 103), none⟩,
  ⟨(some 105), .ld none (.t 104), none⟩,
  ⟨(some 106), .bin .eql (.t 105) (.k (.c (.int .i64 6))), none⟩]
def b_rotalaw05_KernStops_19 : IC := (.seq (.seq (.ops o_rotalaw05_KernStops_16) (.cond (.t 94) .skip (.exit 2))) (.block 3 (.seq (.ops o_rotalaw05_KernStops_17) (.seq (.ops o_rotalaw05_KernStops_18) (.cond (.t 106) (.exit 2) .skip)))))
abbrev o_rotalaw05_KernStops_20 : List IOper := [⟨(some 107), .mv (.t 14), none⟩,
  ⟨(some 108), .mv (.t 15), none⟩,
  ⟨(some 109), .bin .neq (.t 107) (.t 108), none⟩,
  ⟨(some 110), .mv (.t 109), none⟩,
  ⟨(some 111), .mv (.t 13), some (110, false)⟩,
  ⟨(some 112), .len false (.t 111), some (110, false)⟩,
  ⟨(some 113), .mv (.t 15), some (110, false)⟩,
  ⟨(some 114), .bin .neq (.t 112) (.t 113), some (110, false)⟩,
  ⟨(some 115), .pick (.t 110) (.k (.c (.bool true))) (.t 114), none⟩]
abbrev o_rotalaw05_KernStops_21 : List IOper := [⟨(some 6), .mv (.k (.c (.bool false))), none⟩]
abbrev o_rotalaw05_KernStops_22 : List IOper := [⟨(some 116), .mv (.t 13), none⟩,
  ⟨(some 117), .len false (.t 116), none⟩,
  ⟨(some 118), .mv (.k (.c (.int .i64 0))), none⟩]
abbrev o_rotalaw05_KernStops_23 : List IOper := [⟨(some 119), .bin .lss (.t 118) (.t 117), none⟩]
abbrev o_rotalaw05_KernStops_24 : List IOper := [⟨(some 120), .mv (.t 118), none⟩,
  ⟨(some 16), .mv (.t 120), none⟩]
abbrev o_rotalaw05_KernStops_25 : List IOper := [⟨(some 121), .mv (.t 13), none⟩,
  ⟨(some 122), .mv (.t 16), none⟩,
  ⟨(some 123), .iaS 3 (.t 121) (.t 122), none⟩,
  ⟨(some 124), .fa 1 (.t 123), none⟩,
  ⟨(some 125), .ld none (.t 124), none⟩,
  ⟨(some 126), .bin .eql (.t 125) (.k (.c (.int .i64 51))), none⟩,
  ⟨(some 127), .mv (.t 11), none⟩,
  ⟨(some 128), .bin .eql (.t 127) (.k (.c (.int .i64 3))), none⟩,
  ⟨(some 129), .eq .bool true (.t 126) (.t 128), none⟩,
  ⟨(some 130), .mv (.t 129), none⟩,
  ⟨(some 131), .mv (.t 13), some (130, false)⟩,
  ⟨(some 132), .mv (.t 16), some (130, false)⟩,
  ⟨(some 133), .iaS 3 (.t 131) (.t 132), some (130, false)⟩,
  ⟨(some 134), .fa 0 (.t 133), some (130, false)⟩,
  ⟨(some 135), .ld none (.t 134), some (130, false)⟩,
  ⟨(some 136), .mv (.t 12), some (130, false)⟩,
  ⟨(some 137), .bin .neq (.t 135) (.t 136), some (130, false)⟩,
  ⟨(some 138), .pick (.t 130) (.k (.c (.bool true))) (.t 137), none⟩,
  ⟨(some 139), .mv (.t 138), none⟩,
  ⟨(some 140), .mv (.t 11), some (139, false)⟩,
  ⟨(some 141), .bin .eql (.t 140) (.k (.c (.int .i64 3))), some (139, false)⟩,
  ⟨(some 142), .mv (.t 141), some (139, false)⟩,
  ⟨(some 143), .mv (.t 13), some (142, true)⟩,
  ⟨(some 144), .mv (.t 16), some (142, true)⟩,
  ⟨(some 145), .iaS 3 (.t 143) (.t 144), some (142, true)⟩,
  ⟨(some 146), .fa 2 (.t 145), some (142, true)⟩,
  ⟨(some 147), .ld none (.t 146), some (142, true)⟩,
  ⟨(some 148), .len false (.t 147), some (142, true)⟩,
  ⟨(some 149), .bin .gtr (.t 148) (.k (.c (.int .i64 0))), some (142, true)⟩,
  ⟨(some 150), .pick (.t 142) (.t 149) (.k (.c (.bool false))), some (139, false)⟩,
  ⟨(some 151), .pick (.t 139) (.k (.c (.bool true))) (.t 150), none⟩]
abbrev o_rotalaw05_KernStops_26 : List IOper := [⟨(some 6), .mv (.k (.c (.bool false))), none⟩]
abbrev o_rotalaw05_KernStops_27 : List IOper := [⟨(some 152), .mv (.t 13), none⟩,
  ⟨(some 153), .mv (.t 16), none⟩,
  ⟨(some 154), .iaS 3 (.t 152) (.t 153), none⟩,
  ⟨(some 155), .fa 1 (.t 154), none⟩,
  ⟨(some 156), .ld none (.t 155), none⟩,
  ⟨(some 157), .bin .eql (.t 156) (.k (.c (.int .i64 50))), none⟩,
  ⟨(some 158), .mv (.t 157), none⟩,
  ⟨(some 159), .mv (.t 13), some (158, false)⟩,
  ⟨(some 160), .mv (.t 16), some (158, false)⟩,
  ⟨(some 161), .iaS 3 (.t 159) (.t 160), some (158, false)⟩,
  ⟨(some 162), .fa 1 (.t 161), some (158, false)⟩,
  ⟨(some 163), .ld none (.t 162), some (158, false)⟩,
  ⟨(some 164), .bin .eql (.t 163) (.k (.c (.int .i64 53))), some (158, false)⟩,
  ⟨(some 165), .pick (.t 158) (.k (.c (.bool true))) (.t 164), none⟩]
abbrev o_rotalaw05_KernStops_28 : List IOper := [⟨(some 166), .mv (.t 11), none⟩,
  ⟨(some 167), .bin .add (.t 166) (.k (.c (.int .i64 1))), none⟩,
  ⟨(some 11), .mv (.t 167), none⟩]
abbrev o_rotalaw05_KernStops_29 : List IOper := [⟨(some 168), .bin .add (.t 118) (.k (.c (.int .i64 1))), none⟩,
  ⟨(some 118), .mv (.t 168), none⟩]
def b_rotalaw05_KernStops_30 : IC := (.seq (.ops o_rotalaw05_KernStops_23) (.seq (.cond (.t 119) .skip (.exit 4)) (.seq (.block 5 (.seq (.ops o_rotalaw05_KernStops_24) (.seq (.seq (.ops o_rotalaw05_KernStops_25) (.cond (.t 151) (.seq (.ops o_rotalaw05_KernStops_26) .ret) .skip)) (.seq (.ops o_rotalaw05_KernStops_27) (.cond (.t 165) (.ops o_rotalaw05_KernStops_28) .skip))))) (.ops o_rotalaw05_KernStops_29))))
abbrev o_rotalaw05_KernStops_31 : List IOper := [⟨(some 169), .mv (.t 9), none⟩,
  ⟨(some 170), .mv (.t 8), none⟩,
  ⟨(some 171), .call (.k (.c (.fn fn_kern_Kernel_Faults [] []))) [(.t 169), (.t 170)], none⟩,
  ⟨(some 172), .mv (.t 11), none⟩,
  ⟨(some 173), .bin .neq (.t 171) (.t 172), none⟩,
  ⟨(some 174), .mv (.t 173), none⟩,
  ⟨(some 175), .mv (.t 9), some (174, false)⟩,
  ⟨(some 176), .mv (.t 8), some (174, false)⟩,
  ⟨(some 177), .call (.k (.c (.fn fn_kern_Kernel_Stopped [] []))) [(.t 175), (.t 176)], some (174, false)⟩,
  ⟨(some 178), .mv (.t 11), some (174, false)⟩,
  ⟨(some 179), .bin .eql (.t 178) (.k (.c (.int .i64 3))), some (174, false)⟩,
  ⟨(some 180), .eq .bool true (.t 177) (.t 179), some (174, false)⟩,
  ⟨(some 181), .pick (.t 174) (.k (.c (.bool true))) (.t 180), none⟩]
abbrev o_rotalaw05_KernStops_32 : List IOper := [⟨(some 6), .mv (.k (.c (.bool false))), none⟩]
abbrev o_rotalaw05_KernStops_33 : List IOper := [⟨(some 182), .bin .add (.t 61) (.k (.c (.int .i64 1))), none⟩,
  ⟨(some 61), .mv (.t 182), none⟩]
def b_rotalaw05_KernStops_34 : IC := (.seq (.ops o_rotalaw05_KernStops_10) (.seq (.cond (.t 62) .skip (.exit 0)) (.seq (.block 1 (.seq (.ops o_rotalaw05_KernStops_11) (.seq (.seq (.ops o_rotalaw05_KernStops_12) (.cond (.t 69) (.seq (.ops o_rotalaw05_KernStops_13) .ret) .skip)) (.seq (.ops o_rotalaw05_KernStops_14) (.seq (.ops o_rotalaw05_KernStops_15) (.seq (.block 2 (.loop b_rotalaw05_KernStops_19)) (.seq (.seq (.ops o_rotalaw05_KernStops_20) (.cond (.t 115) (.seq (.ops o_rotalaw05_KernStops_21) .ret) .skip)) (.seq (.seq (.ops o_rotalaw05_KernStops_22) (.block 4 (.loop b_rotalaw05_KernStops_30))) (.seq (.ops o_rotalaw05_KernStops_31) (.cond (.t 181) (.seq (.ops o_rotalaw05_KernStops_32) .ret) .skip)))))))))) (.ops o_rotalaw05_KernStops_33))))
abbrev o_rotalaw05_KernStops_35 : List IOper := [⟨(some 183), .fa 8 (.t 3), none⟩,
  ⟨(some 184), .ld none (.t 183), none⟩,
  ⟨(some 185), .len false (.t 184), none⟩,
  ⟨(some 186), .mv (.k (.c (.int .i64 0))), none⟩]
abbrev o_rotalaw05_KernStops_36 : List IOper := [⟨(some 187), .bin .lss (.t 186) (.t 185), none⟩]
abbrev o_rotalaw05_KernStops_37 : List IOper := [⟨(some 188), .mv (.t 186), none⟩,
  ⟨(some 17), .mv (.t 188), none⟩]
abbrev o_rotalaw05_KernStops_38 : List IOper := [⟨(some 189), .mv (.t 17), none⟩,
  ⟨(some 190), .mv (.t 8), none⟩,
  ⟨(some 191), .bin .neq (.t 189) (.t 190), none⟩,
  ⟨(some 192), .mv (.t 191), none⟩,
  ⟨(some 193), .mv (.t 9), some (192, true)⟩,
  ⟨(some 194), .mv (.t 17), some (192, true)⟩,
  ⟨(some 195), .call (.k (.c (.fn fn_kern_Kernel_Stopped [] []))) [(.t 193), (.t 194)], some (192, true)⟩,
  ⟨(some 196), .mv (.t 195), some (192, true)⟩,
  ⟨(some 197), .mv (.t 9), some (196, false)⟩,
  ⟨(some 198), .mv (.t 17), some (196, false)⟩,
  ⟨(some 199), .call (.k (.c (.fn fn_kern_Kernel_Faults [] []))) [(.t 197), (.t 198)], some (196, false)⟩,
  ⟨(some 200), .bin .neq (.t 199) (.k (.c (.int .i64 0))), some (196, false)⟩,
  ⟨(some 201), .pick (.t 196) (.k (.c (.bool true))) (.t 200), some (192, true)⟩,
  ⟨(some 202), .pick (.t 192) (.t 201) (.k (.c (.bool false))), none⟩]
abbrev o_rotalaw05_KernStops_39 : List IOper := [⟨(some 6), .mv (.k (.c (.bool false))), none⟩]
abbrev o_rotalaw05_KernStops_40 : List IOper := [⟨(some 203), .bin .add (.t 186) (.k (.c (.int .i64 1))), none⟩,
  ⟨(some 186), .mv (.t 203), none⟩]
def b_rotalaw05_KernStops_41 : IC := (.seq (.ops o_rotalaw05_KernStops_36) (.seq (.cond (.t 187) .skip (.exit 6)) (.seq (.block 7 (.seq (.ops o_rotalaw05_KernStops_37) (.seq (.ops o_rotalaw05_KernStops_38) (.cond (.t 202) (.seq (.ops o_rotalaw05_KernStops_39) .ret) .skip)))) (.ops o_rotalaw05_KernStops_40))))
abbrev o_rotalaw05_KernStops_42 : List IOper := [⟨(some 204), .mv (.t 9), none⟩,
  ⟨(some 205), .call (.k (.c (.fn fn_kern_Kernel_Restart [] []))) [(.t 204)], none⟩]
abbrev o_rotalaw05_KernStops_43 : List IOper := [⟨(some 206), .mv (.t 7), none⟩,
  ⟨(some 207), .mv (.t 206), none⟩,
  ⟨(some 208), .mv (.t 9), some (207, true)⟩,
  ⟨(some 209), .mv (.t 8), some (207, true)⟩,
  ⟨(some 210), .call (.k (.c (.fn fn_kern_Kernel_Stopped [] []))) [(.t 208), (.t 209)], some (207, true)⟩,
  ⟨(some 211), .un .not (.t 210), some (207, true)⟩,
  ⟨(some 212), .pick (.t 207) (.t 211) (.k (.c (.bool false))), none⟩,
  ⟨(some 213), .mv (.t 212), none⟩,
  ⟨(some 214), .mv (.t 9), some (213, true)⟩,
  ⟨(some 215), .mv (.t 8), some (213, true)⟩,
  ⟨(some 216), .call (.k (.c (.fn fn_kern_Kernel_Faults [] []))) [(.t 214), (.t 215)], some (213, true)⟩,
  ⟨(some 217), .bin .eql (.t 216) (.k (.c (.int .i64 0))), some (213, true)⟩,
  ⟨(some 218), .pick (.t 213) (.t 217) (.k (.c (.bool false))), none⟩,
  ⟨(some 6), .mv (.t 218), none⟩]
def c_rotalaw05_KernStops : IC := (.seq (.ops o_rotalaw05_KernStops_0) (.seq (.ops o_rotalaw05_KernStops_1) (.seq (.seq (.ops o_rotalaw05_KernStops_2) (.cond (.t 37) (.seq (.ops o_rotalaw05_KernStops_3) .ret) .skip)) (.seq (.ops o_rotalaw05_KernStops_4) (.seq (.ops o_rotalaw05_KernStops_5) (.seq (.seq (.ops o_rotalaw05_KernStops_6) (.cond (.t 57) (.seq (.ops o_rotalaw05_KernStops_7) .ret) .skip)) (.seq (.ops o_rotalaw05_KernStops_8) (.seq (.seq (.ops o_rotalaw05_KernStops_9) (.block 0 (.loop b_rotalaw05_KernStops_34))) (.seq (.seq (.ops o_rotalaw05_KernStops_35) (.block 6 (.loop b_rotalaw05_KernStops_41))) (.seq (.ops o_rotalaw05_KernStops_42) (.seq (.ops o_rotalaw05_KernStops_43) .ret)))))))))))
def i_rotalaw05_KernStops : IFn := ⟨219, c_rotalaw05_KernStops, [(6, none)]⟩

-- F 5 rota/rotalaw05.KernPlays: bads 0, calls [15, 8, 16, 9, 17, 18, 19, 19, 19, 19, 19]
abbrev o_rotalaw05_KernPlays_0 : List IOper := [⟨(some 3), .box 28 (.t 0), none⟩,
  ⟨(some 6), .mv (.k (.c (.bool false))), none⟩]
abbrev o_rotalaw05_KernPlays_1 : List IOper := [⟨(some 17), .ld (some 12) (.t 3), none⟩,
  ⟨(some 18), .call (.k (.c (.fn fn_rotaref02_Great [] []))) [(.t 17)], none⟩,
  ⟨(some 19), .mv (.t 18), none⟩,
  ⟨(some 20), .mv (.t 2), some (19, false)⟩,
  ⟨(some 21), .call (.k (.c (.fn fn_rotalaw05_great [] []))) [(.t 20)], some (19, false)⟩,
  ⟨(some 22), .pick (.t 19) (.k (.c (.bool true))) (.t 21), none⟩]
abbrev o_rotalaw05_KernPlays_2 : List IOper := [⟨(some 6), .mv (.k (.c (.bool true))), none⟩]
abbrev o_rotalaw05_KernPlays_3 : List IOper := [⟨(some 23), .ld (some 12) (.t 3), none⟩,
  ⟨(some 24), .call (.k (.c (.fn fn_rotaref02_Twin [] []))) [(.t 23)], none⟩,
  ⟨(some 7), .new 28 (.agg ([(.int .i64 0)] ++ [(.sl none 0 0 false)] ++ List.replicate 6 (.int .i64 0) ++ List.replicate 4 (.sl none 0 0 false))), none⟩,
  ⟨none, .st 12 (.t 7) (.t 24), none⟩]
abbrev o_rotalaw05_KernPlays_4 : List IOper := [⟨(some 26), .ld (some 12) (.t 7), none⟩,
  ⟨(some 27), .mv (.t 1), none⟩,
  ⟨(some 28), .call (.k (.c (.fn fn_kern_New [] []))) [(.t 26), (.t 27)], none⟩,
  ⟨(some 25), .mv (.t 28), none⟩,
  ⟨(some 29), .ext (.t 25) 0, none⟩,
  ⟨(some 30), .ext (.t 25) 1, none⟩,
  ⟨(some 8), .mv (.t 29), none⟩,
  ⟨(some 9), .mv (.t 30), none⟩]
abbrev o_rotalaw05_KernPlays_5 : List IOper := [⟨(some 32), .ld (some 12) (.t 3), none⟩,
  ⟨(some 33), .mv (.t 1), none⟩,
  ⟨(some 34), .call (.k (.c (.fn fn_rotaref05_New [] []))) [(.t 32), (.t 33)], none⟩,
  ⟨(some 31), .mv (.t 34), none⟩,
  ⟨(some 35), .ext (.t 31) 0, none⟩,
  ⟨(some 36), .ext (.t 31) 1, none⟩,
  ⟨(some 10), .new 62 (.agg ([(.int .i64 0)] ++ [(.sl none 0 0 false)] ++ List.replicate 6 (.int .i64 0) ++ List.replicate 4 (.sl none 0 0 false) ++ [(.int .i64 0)] ++ List.replicate 256 (.int .u8 0) ++ List.replicate 2 (.sl none 0 0 false))), none⟩,
  ⟨none, .st 271 (.t 10) (.t 35), none⟩,
  ⟨(some 11), .mv (.t 36), none⟩]
abbrev o_rotalaw05_KernPlays_6 : List IOper := [⟨(some 37), .mv (.t 9), none⟩,
  ⟨(some 38), .bin .neq (.t 37) (.k (.c (.int .i64 0))), none⟩,
  ⟨(some 39), .mv (.t 38), none⟩,
  ⟨(some 40), .mv (.t 11), some (39, false)⟩,
  ⟨(some 41), .bin .neq (.t 40) (.k (.c (.int .i64 0))), some (39, false)⟩,
  ⟨(some 42), .pick (.t 39) (.k (.c (.bool true))) (.t 41), none⟩]
abbrev o_rotalaw05_KernPlays_7 : List IOper := [⟨(some 43), .mv (.t 9), none⟩,
  ⟨(some 44), .mv (.t 11), none⟩,
  ⟨(some 45), .bin .eql (.t 43) (.t 44), none⟩,
  ⟨(some 46), .mv (.t 45), none⟩,
  ⟨(some 47), .mv (.t 8), some (46, true)⟩,
  ⟨(some 48), .eq .ptr false (.t 47) (.k (.c (.ptr none))), some (46, true)⟩,
  ⟨(some 49), .pick (.t 46) (.t 48) (.k (.c (.bool false))), none⟩,
  ⟨(some 6), .mv (.t 49), none⟩]
abbrev o_rotalaw05_KernPlays_8 : List IOper := [⟨(some 50), .ld (some 12) (.t 7), none⟩,
  ⟨(some 51), .ld (some 12) (.t 3), none⟩,
  ⟨(some 52), .call (.k (.c (.fn fn_rotaref02_Same [] []))) [(.t 50), (.t 51)], none⟩,
  ⟨(some 53), .un .not (.t 52), none⟩]
abbrev o_rotalaw05_KernPlays_9 : List IOper := [⟨(some 6), .mv (.k (.c (.bool false))), none⟩]
abbrev o_rotalaw05_KernPlays_10 : List IOper := [⟨(some 54), .fa 8 (.t 7), none⟩,
  ⟨(some 55), .ld none (.t 54), none⟩,
  ⟨(some 56), .len false (.t 55), none⟩,
  ⟨(some 57), .mv (.k (.c (.int .i64 0))), none⟩]
abbrev o_rotalaw05_KernPlays_11 : List IOper := [⟨(some 58), .bin .lss (.t 57) (.t 56), none⟩]
abbrev o_rotalaw05_KernPlays_12 : List IOper := [⟨(some 59), .mv (.t 57), none⟩,
  ⟨(some 12), .mv (.t 59), none⟩]
abbrev o_rotalaw05_KernPlays_13 : List IOper := [⟨(some 60), .fa 8 (.t 7), none⟩,
  ⟨(some 61), .ld none (.t 60), none⟩,
  ⟨(some 62), .mv (.t 12), none⟩,
  ⟨(some 63), .build [(.int .i64 0), (.int .i64 0), (.int .i64 0)] [(0, 1, (.k (.c (.int .i64 9))))], none⟩,
  ⟨(some 64), .iaS 3 (.t 61) (.t 62), none⟩,
  ⟨none, .st 3 (.t 64) (.t 63), none⟩]
abbrev o_rotalaw05_KernPlays_14 : List IOper := [⟨(some 65), .bin .add (.t 57) (.k (.c (.int .i64 1))), none⟩,
  ⟨(some 57), .mv (.t 65), none⟩]
def b_rotalaw05_KernPlays_15 : IC := (.seq (.ops o_rotalaw05_KernPlays_11) (.seq (.cond (.t 58) .skip (.exit 0)) (.seq (.block 1 (.seq (.ops o_rotalaw05_KernPlays_12) (.ops o_rotalaw05_KernPlays_13))) (.ops o_rotalaw05_KernPlays_14))))
abbrev o_rotalaw05_KernPlays_16 : List IOper := [⟨(some 66), .fa 10 (.t 7), none⟩,
  ⟨(some 67), .ld none (.t 66), none⟩,
  ⟨(some 68), .len false (.t 67), none⟩,
  ⟨(some 69), .mv (.k (.c (.int .i64 0))), none⟩]
abbrev o_rotalaw05_KernPlays_17 : List IOper := [⟨(some 70), .bin .lss (.t 69) (.t 68), none⟩]
abbrev o_rotalaw05_KernPlays_18 : List IOper := [⟨(some 71), .mv (.t 69), none⟩,
  ⟨(some 13), .mv (.t 71), none⟩]
abbrev o_rotalaw05_KernPlays_19 : List IOper := [⟨(some 72), .fa 10 (.t 7), none⟩,
  ⟨(some 73), .ld none (.t 72), none⟩,
  ⟨(some 74), .mv (.t 13), none⟩,
  ⟨(some 75), .iaS 6 (.t 73) (.t 74), none⟩,
  ⟨(some 76), .fa 3 (.t 75), none⟩,
  ⟨none, .st 1 (.t 76) (.k (.c (.int .i64 1))), none⟩]
abbrev o_rotalaw05_KernPlays_20 : List IOper := [⟨(some 77), .bin .add (.t 69) (.k (.c (.int .i64 1))), none⟩,
  ⟨(some 69), .mv (.t 77), none⟩]
def b_rotalaw05_KernPlays_21 : IC := (.seq (.ops o_rotalaw05_KernPlays_17) (.seq (.cond (.t 70) .skip (.exit 2)) (.seq (.block 3 (.seq (.ops o_rotalaw05_KernPlays_18) (.ops o_rotalaw05_KernPlays_19))) (.ops o_rotalaw05_KernPlays_20))))
abbrev o_rotalaw05_KernPlays_22 : List IOper := [⟨(some 14), .mv (.k (.c (.int .i64 0))), none⟩]
abbrev o_rotalaw05_KernPlays_23 : List IOper := [⟨(some 78), .mv (.t 14), none⟩,
  ⟨(some 79), .mv (.t 2), none⟩,
  ⟨(some 80), .len false (.t 79), none⟩,
  ⟨(some 81), .bin .lss (.t 78) (.t 80), none⟩]
abbrev o_rotalaw05_KernPlays_24 : List IOper := [⟨(some 84), .mv (.t 8), none⟩,
  ⟨(some 85), .mv (.t 2), none⟩,
  ⟨(some 86), .mv (.t 14), none⟩,
  ⟨(some 87), .iaS 5 (.t 85) (.t 86), none⟩,
  ⟨(some 88), .ld (some 5) (.t 87), none⟩,
  ⟨(some 89), .call (.k (.c (.fn fn_rotalaw05_do [] []))) [(.t 84), (.t 10), (.t 88)], none⟩,
  ⟨(some 90), .un .not (.t 89), none⟩]
abbrev o_rotalaw05_KernPlays_25 : List IOper := [⟨(some 6), .mv (.k (.c (.bool false))), none⟩]
abbrev o_rotalaw05_KernPlays_26 : List IOper := [⟨(some 82), .mv (.t 14), none⟩,
  ⟨(some 83), .bin .add (.t 82) (.k (.c (.int .i64 1))), none⟩,
  ⟨(some 14), .mv (.t 83), none⟩]
def b_rotalaw05_KernPlays_27 : IC := (.seq (.seq (.ops o_rotalaw05_KernPlays_23) (.cond (.t 81) .skip (.exit 4))) (.seq (.block 5 (.seq (.ops o_rotalaw05_KernPlays_24) (.cond (.t 90) (.seq (.ops o_rotalaw05_KernPlays_25) .ret) .skip))) (.ops o_rotalaw05_KernPlays_26)))
abbrev o_rotalaw05_KernPlays_28 : List IOper := [⟨(some 15), .mv (.k (.c (.int .i64 (-1)))), none⟩]
abbrev o_rotalaw05_KernPlays_29 : List IOper := [⟨(some 91), .mv (.t 15), none⟩,
  ⟨(some 92), .fa 8 (.t 3), none⟩,
  ⟨(some 93), .ld none (.t 92), none⟩,
  ⟨(some 94), .len false (.t 93), none⟩,
  ⟨(some 95), .bin .leq (.t 91) (.t 94), none⟩]
abbrev o_rotalaw05_KernPlays_30 : List IOper := [⟨(some 98), .mv (.t 8), none⟩,
  ⟨(some 99), .mv (.t 15), none⟩,
  ⟨(some 100), .build [(.int .i64 0), (.int .i64 0), (.int .i64 0), (.sl none 0 0 false), (.sl none 0 0 false)] [(0, 1, (.k (.c (.int .i64 4)))), (1, 1, (.t 99))], none⟩,
  ⟨(some 101), .call (.k (.c (.fn fn_rotalaw05_do [] []))) [(.t 98), (.t 10), (.t 100)], none⟩,
  ⟨(some 102), .un .not (.t 101), none⟩,
  ⟨(some 103), .mv (.t 102), none⟩,
  ⟨(some 104), .mv (.t 8), some (103, false)⟩,
  ⟨(some 105), .mv (.t 15), some (103, false)⟩,
  ⟨(some 106), .build [(.int .i64 0), (.int .i64 0), (.int .i64 0), (.sl none 0 0 false), (.sl none 0 0 false)] [(0, 1, (.k (.c (.int .i64 5)))), (1, 1, (.t 105))], some (103, false)⟩,
  ⟨(some 107), .call (.k (.c (.fn fn_rotalaw05_do [] []))) [(.t 104), (.t 10), (.t 106)], some (103, false)⟩,
  ⟨(some 108), .un .not (.t 107), some (103, false)⟩,
  ⟨(some 109), .pick (.t 103) (.k (.c (.bool true))) (.t 108), none⟩]
abbrev o_rotalaw05_KernPlays_31 : List IOper := [⟨(some 6), .mv (.k (.c (.bool false))), none⟩]
abbrev o_rotalaw05_KernPlays_32 : List IOper := [⟨(some 96), .mv (.t 15), none⟩,
  ⟨(some 97), .bin .add (.t 96) (.k (.c (.int .i64 1))), none⟩,
  ⟨(some 15), .mv (.t 97), none⟩]
def b_rotalaw05_KernPlays_33 : IC := (.seq (.seq (.ops o_rotalaw05_KernPlays_29) (.cond (.t 95) .skip (.exit 6))) (.seq (.block 7 (.seq (.ops o_rotalaw05_KernPlays_30) (.cond (.t 109) (.seq (.ops o_rotalaw05_KernPlays_31) .ret) .skip))) (.ops o_rotalaw05_KernPlays_32)))
abbrev o_rotalaw05_KernPlays_34 : List IOper := [⟨(some 16), .mv (.k (.c (.int .i64 (-1)))), none⟩]
abbrev o_rotalaw05_KernPlays_35 : List IOper := [⟨(some 110), .mv (.t 16), none⟩,
  ⟨(some 111), .fa 10 (.t 3), none⟩,
  ⟨(some 112), .ld none (.t 111), none⟩,
  ⟨(some 113), .len false (.t 112), none⟩,
  ⟨(some 114), .bin .leq (.t 110) (.t 113), none⟩]
abbrev o_rotalaw05_KernPlays_36 : List IOper := [⟨(some 117), .mv (.t 8), none⟩,
  ⟨(some 118), .mv (.t 16), none⟩,
  ⟨(some 119), .build [(.int .i64 0), (.int .i64 0), (.int .i64 0), (.sl none 0 0 false), (.sl none 0 0 false)] [(0, 1, (.k (.c (.int .i64 6)))), (1, 1, (.t 118))], none⟩,
  ⟨(some 120), .call (.k (.c (.fn fn_rotalaw05_do [] []))) [(.t 117), (.t 10), (.t 119)], none⟩,
  ⟨(some 121), .un .not (.t 120), none⟩,
  ⟨(some 122), .mv (.t 121), none⟩,
  ⟨(some 123), .mv (.t 8), some (122, false)⟩,
  ⟨(some 124), .mv (.t 16), some (122, false)⟩,
  ⟨(some 125), .build [(.int .i64 0), (.int .i64 0), (.int .i64 0), (.sl none 0 0 false), (.sl none 0 0 false)] [(0, 1, (.k (.c (.int .i64 1)))), (1, 1, (.t 124))], some (122, false)⟩,
  ⟨(some 126), .call (.k (.c (.fn fn_rotalaw05_do [] []))) [(.t 123), (.t 10), (.t 125)], some (122, false)⟩,
  ⟨(some 127), .un .not (.t 126), some (122, false)⟩,
  ⟨(some 128), .pick (.t 122) (.k (.c (.bool true))) (.t 127), none⟩]
abbrev o_rotalaw05_KernPlays_37 : List IOper := [⟨(some 6), .mv (.k (.c (.bool false))), none⟩]
abbrev o_rotalaw05_KernPlays_38 : List IOper := [⟨(some 115), .mv (.t 16), none⟩,
  ⟨(some 116), .bin .add (.t 115) (.k (.c (.int .i64 1))), none⟩,
  ⟨(some 16), .mv (.t 116), none⟩]
def b_rotalaw05_KernPlays_39 : IC := (.seq (.seq (.ops o_rotalaw05_KernPlays_35) (.cond (.t 114) .skip (.exit 8))) (.seq (.block 9 (.seq (.ops o_rotalaw05_KernPlays_36) (.cond (.t 128) (.seq (.ops o_rotalaw05_KernPlays_37) .ret) .skip))) (.ops o_rotalaw05_KernPlays_38)))
abbrev o_rotalaw05_KernPlays_40 : List IOper := [⟨(some 6), .mv (.k (.c (.bool true))), none⟩]
def c_rotalaw05_KernPlays : IC := (.seq (.ops o_rotalaw05_KernPlays_0) (.seq (.seq (.ops o_rotalaw05_KernPlays_1) (.cond (.t 22) (.seq (.ops o_rotalaw05_KernPlays_2) .ret) .skip)) (.seq (.ops o_rotalaw05_KernPlays_3) (.seq (.ops o_rotalaw05_KernPlays_4) (.seq (.ops o_rotalaw05_KernPlays_5) (.seq (.seq (.ops o_rotalaw05_KernPlays_6) (.cond (.t 42) (.seq (.ops o_rotalaw05_KernPlays_7) .ret) .skip)) (.seq (.seq (.ops o_rotalaw05_KernPlays_8) (.cond (.t 53) (.seq (.ops o_rotalaw05_KernPlays_9) .ret) .skip)) (.seq (.seq (.ops o_rotalaw05_KernPlays_10) (.block 0 (.loop b_rotalaw05_KernPlays_15))) (.seq (.seq (.ops o_rotalaw05_KernPlays_16) (.block 2 (.loop b_rotalaw05_KernPlays_21))) (.seq (.seq (.ops o_rotalaw05_KernPlays_22) (.block 4 (.loop b_rotalaw05_KernPlays_27))) (.seq (.seq (.ops o_rotalaw05_KernPlays_28) (.block 6 (.loop b_rotalaw05_KernPlays_33))) (.seq (.seq (.ops o_rotalaw05_KernPlays_34) (.block 8 (.loop b_rotalaw05_KernPlays_39))) (.seq (.ops o_rotalaw05_KernPlays_40) .ret)))))))))))))
def i_rotalaw05_KernPlays : IFn := ⟨129, c_rotalaw05_KernPlays, [(6, none)]⟩

-- F 6 rota/rotalaw05.KernNames: bads 0, calls [20, 9, 11, 21, 11, 21, 14, 11, 21, 13, 14, 11, 22, 11, 11, 21, 20, 9, 9, 22, 11, 23, 10, 13, 14, 12, 24, 7, 23, 23, 12, 12]
abbrev o_rotalaw05_KernNames_0 : List IOper := [⟨(some 0), .mv (.k (.c (.bool false))), none⟩]
abbrev o_rotalaw05_KernNames_1 : List IOper := [⟨(some 24), .call (.k (.c (.fn fn_rotalaw05_two [] []))) [], none⟩,
  ⟨(some 25), .call (.k (.c (.fn fn_kern_New [] []))) [(.t 24), (.k (.c (.int .i64 0)))], none⟩,
  ⟨(some 23), .mv (.t 25), none⟩,
  ⟨(some 26), .ext (.t 23) 0, none⟩,
  ⟨(some 27), .ext (.t 23) 1, none⟩,
  ⟨(some 1), .mv (.t 26), none⟩,
  ⟨(some 2), .mv (.t 27), none⟩]
abbrev o_rotalaw05_KernNames_2 : List IOper := [⟨(some 29), .mv (.t 1), none⟩,
  ⟨(some 30), .build [(.int .i64 0), (.int .i64 0), (.int .u8 0), (.int .i64 0), (.sl none 0 0 false)] [(0, 1, (.k (.c (.int .i64 1))))], none⟩,
  ⟨(some 31), .build [(.int .i64 0), (.int .i64 0), (.int .u8 0), (.int .i64 0), (.sl none 0 0 false)] [(0, 1, (.k (.c (.int .i64 6))))], none⟩,
  ⟨(some 32), .build [(.int .i64 0), (.int .i64 0), (.int .u8 0), (.int .i64 0), (.sl none 0 0 false)] [(0, 1, (.k (.c (.int .i64 1))))], none⟩,
  ⟨(some 33), .bsl 48 3 [(.int .i64 0), (.int .i64 0), (.int .u8 0), (.int .i64 0), (.sl none 0 0 false), (.int .i64 0), (.int .i64 0), (.int .u8 0), (.int .i64 0), (.sl none 0 0 false), (.int .i64 0), (.int .i64 0), (.int .u8 0), (.int .i64 0), (.sl none 0 0 false)] [(0, 5, (.t 30)), (5, 5, (.t 31)), (10, 5, (.t 32))], none⟩,
  ⟨(some 34), .call (.k (.c (.fn fn_kern_Kernel_Run [] []))) [(.t 29), (.k (.c (.int .i64 1))), (.k (.c (.int .i64 0))), (.t 33)], none⟩,
  ⟨(some 28), .mv (.t 34), none⟩,
  ⟨(some 35), .ext (.t 28) 0, none⟩,
  ⟨(some 36), .ext (.t 28) 1, none⟩,
  ⟨(some 3), .mv (.t 35), none⟩,
  ⟨(some 4), .mv (.t 36), none⟩]
abbrev o_rotalaw05_KernNames_3 : List IOper := [⟨(some 37), .mv (.t 4), none⟩,
  ⟨(some 38), .bin .eql (.t 37) (.k (.c (.int .i64 2))), none⟩,
  ⟨(some 39), .mv (.t 38), none⟩,
  ⟨(some 40), .mv (.t 3), some (39, true)⟩,
  ⟨(some 41), .bsl 33 2 [(.int .i64 0), (.int .i64 0)] [(0, 1, (.k (.c (.int .i64 0)))), (1, 1, (.k (.c (.int .i64 0))))], some (39, true)⟩,
  ⟨(some 42), .call (.k (.c (.fn fn_rotalaw05_are [] []))) [(.t 40), (.t 41)], some (39, true)⟩,
  ⟨(some 43), .pick (.t 39) (.t 42) (.k (.c (.bool false))), none⟩,
  ⟨(some 44), .mv (.t 43), none⟩,
  ⟨(some 45), .mv (.t 3), some (44, true)⟩,
  ⟨(some 46), .iaS 3 (.t 45) (.k (.c (.int .i64 0))), some (44, true)⟩,
  ⟨(some 47), .fa 2 (.t 46), some (44, true)⟩,
  ⟨(some 48), .ld none (.t 47), some (44, true)⟩,
  ⟨(some 49), .b2s (.t 48), some (44, true)⟩,
  ⟨(some 50), .bin .eql (.t 49) (.k (.c (.str ⟨#[0]⟩))), some (44, true)⟩,
  ⟨(some 51), .pick (.t 44) (.t 50) (.k (.c (.bool false))), none⟩,
  ⟨(some 5), .mv (.t 51), none⟩]
abbrev o_rotalaw05_KernNames_4 : List IOper := [⟨(some 53), .mv (.t 1), none⟩,
  ⟨(some 54), .bsl 5 1 [(.int .u8 0)] [(0, 1, (.k (.c (.int .u8 1))))], none⟩,
  ⟨(some 55), .build [(.int .i64 0), (.int .i64 0), (.int .u8 0), (.int .i64 0), (.sl none 0 0 false)] [(0, 1, (.k (.c (.int .i64 3)))), (4, 1, (.t 54))], none⟩,
  ⟨(some 56), .build [(.int .i64 0), (.int .i64 0), (.int .u8 0), (.int .i64 0), (.sl none 0 0 false)] [(0, 1, (.k (.c (.int .i64 5))))], none⟩,
  ⟨(some 57), .build [(.int .i64 0), (.int .i64 0), (.int .u8 0), (.int .i64 0), (.sl none 0 0 false)] [(0, 1, (.k (.c (.int .i64 5))))], none⟩,
  ⟨(some 58), .bsl 48 3 [(.int .i64 0), (.int .i64 0), (.int .u8 0), (.int .i64 0), (.sl none 0 0 false), (.int .i64 0), (.int .i64 0), (.int .u8 0), (.int .i64 0), (.sl none 0 0 false), (.int .i64 0), (.int .i64 0), (.int .u8 0), (.int .i64 0), (.sl none 0 0 false)] [(0, 5, (.t 55)), (5, 5, (.t 56)), (10, 5, (.t 57))], none⟩,
  ⟨(some 59), .call (.k (.c (.fn fn_kern_Kernel_Run [] []))) [(.t 53), (.k (.c (.int .i64 1))), (.k (.c (.int .i64 0))), (.t 58)], none⟩,
  ⟨(some 52), .mv (.t 59), none⟩,
  ⟨(some 60), .ext (.t 52) 0, none⟩,
  ⟨(some 61), .ext (.t 52) 1, none⟩,
  ⟨(some 3), .mv (.t 60), none⟩]
abbrev o_rotalaw05_KernNames_5 : List IOper := [⟨(some 62), .mv (.t 5), none⟩,
  ⟨(some 63), .mv (.t 62), none⟩,
  ⟨(some 64), .mv (.t 3), some (63, true)⟩,
  ⟨(some 65), .bsl 33 3 [(.int .i64 0), (.int .i64 0), (.int .i64 0)] [(0, 1, (.k (.c (.int .i64 40)))), (1, 1, (.k (.c (.int .i64 53)))), (2, 1, (.k (.c (.int .i64 53))))], some (63, true)⟩,
  ⟨(some 66), .call (.k (.c (.fn fn_rotalaw05_are [] []))) [(.t 64), (.t 65)], some (63, true)⟩,
  ⟨(some 67), .pick (.t 63) (.t 66) (.k (.c (.bool false))), none⟩,
  ⟨(some 68), .mv (.t 67), none⟩,
  ⟨(some 69), .mv (.t 1), some (68, true)⟩,
  ⟨(some 70), .call (.k (.c (.fn fn_kern_Kernel_Stopped [] []))) [(.t 69), (.k (.c (.int .i64 1)))], some (68, true)⟩,
  ⟨(some 71), .un .not (.t 70), some (68, true)⟩,
  ⟨(some 72), .pick (.t 68) (.t 71) (.k (.c (.bool false))), none⟩,
  ⟨(some 5), .mv (.t 72), none⟩]
abbrev o_rotalaw05_KernNames_6 : List IOper := [⟨(some 74), .mv (.t 1), none⟩,
  ⟨(some 75), .build [(.int .i64 0), (.int .i64 0), (.int .u8 0), (.int .i64 0), (.sl none 0 0 false)] [(0, 1, (.k (.c (.int .i64 5))))], none⟩,
  ⟨(some 76), .build [(.int .i64 0), (.int .i64 0), (.int .u8 0), (.int .i64 0), (.sl none 0 0 false)] [(0, 1, (.k (.c (.int .i64 1))))], none⟩,
  ⟨(some 77), .bsl 48 2 [(.int .i64 0), (.int .i64 0), (.int .u8 0), (.int .i64 0), (.sl none 0 0 false), (.int .i64 0), (.int .i64 0), (.int .u8 0), (.int .i64 0), (.sl none 0 0 false)] [(0, 5, (.t 75)), (5, 5, (.t 76))], none⟩,
  ⟨(some 78), .call (.k (.c (.fn fn_kern_Kernel_Run [] []))) [(.t 74), (.k (.c (.int .i64 1))), (.k (.c (.int .i64 0))), (.t 77)], none⟩,
  ⟨(some 73), .mv (.t 78), none⟩,
  ⟨(some 79), .ext (.t 73) 0, none⟩,
  ⟨(some 80), .ext (.t 73) 1, none⟩,
  ⟨(some 3), .mv (.t 79), none⟩]
abbrev o_rotalaw05_KernNames_7 : List IOper := [⟨(some 81), .mv (.t 5), none⟩,
  ⟨(some 82), .mv (.t 81), none⟩,
  ⟨(some 83), .mv (.t 3), some (82, true)⟩,
  ⟨(some 84), .bsl 33 2 [(.int .i64 0), (.int .i64 0)] [(0, 1, (.k (.c (.int .i64 53)))), (1, 1, (.k (.c (.int .i64 51))))], some (82, true)⟩,
  ⟨(some 85), .call (.k (.c (.fn fn_rotalaw05_are [] []))) [(.t 83), (.t 84)], some (82, true)⟩,
  ⟨(some 86), .pick (.t 82) (.t 85) (.k (.c (.bool false))), none⟩,
  ⟨(some 87), .mv (.t 86), none⟩,
  ⟨(some 88), .mv (.t 1), some (87, true)⟩,
  ⟨(some 89), .call (.k (.c (.fn fn_kern_Kernel_Faults [] []))) [(.t 88), (.k (.c (.int .i64 1)))], some (87, true)⟩,
  ⟨(some 90), .bin .eql (.t 89) (.k (.c (.int .i64 3))), some (87, true)⟩,
  ⟨(some 91), .pick (.t 87) (.t 90) (.k (.c (.bool false))), none⟩,
  ⟨(some 92), .mv (.t 91), none⟩,
  ⟨(some 93), .mv (.t 1), some (92, true)⟩,
  ⟨(some 94), .call (.k (.c (.fn fn_kern_Kernel_Stopped [] []))) [(.t 93), (.k (.c (.int .i64 1)))], some (92, true)⟩,
  ⟨(some 95), .pick (.t 92) (.t 94) (.k (.c (.bool false))), none⟩,
  ⟨(some 5), .mv (.t 95), none⟩]
abbrev o_rotalaw05_KernNames_8 : List IOper := [⟨(some 97), .mv (.t 1), none⟩,
  ⟨(some 98), .bsl 5 1 [(.int .u8 0)] [(0, 1, (.k (.c (.int .u8 5))))], none⟩,
  ⟨(some 99), .build [(.int .i64 0), (.int .i64 0), (.int .u8 0), (.int .i64 0), (.sl none 0 0 false)] [(0, 1, (.k (.c (.int .i64 3)))), (4, 1, (.t 98))], none⟩,
  ⟨(some 100), .build [(.int .i64 0), (.int .i64 0), (.int .u8 0), (.int .i64 0), (.sl none 0 0 false)] [(0, 1, (.k (.c (.int .i64 9))))], none⟩,
  ⟨(some 101), .bsl 48 2 [(.int .i64 0), (.int .i64 0), (.int .u8 0), (.int .i64 0), (.sl none 0 0 false), (.int .i64 0), (.int .i64 0), (.int .u8 0), (.int .i64 0), (.sl none 0 0 false)] [(0, 5, (.t 99)), (5, 5, (.t 100))], none⟩,
  ⟨(some 102), .call (.k (.c (.fn fn_kern_Kernel_Run [] []))) [(.t 97), (.k (.c (.int .i64 0))), (.k (.c (.int .i64 0))), (.t 101)], none⟩,
  ⟨(some 96), .mv (.t 102), none⟩,
  ⟨(some 103), .ext (.t 96) 0, none⟩,
  ⟨(some 104), .ext (.t 96) 1, none⟩,
  ⟨(some 3), .mv (.t 103), none⟩]
abbrev o_rotalaw05_KernNames_9 : List IOper := [⟨(some 106), .mv (.t 1), none⟩,
  ⟨(some 107), .call (.k (.c (.fn fn_kern_Kernel_Take [] []))) [(.t 106), (.k (.c (.int .i64 0)))], none⟩,
  ⟨(some 105), .mv (.t 107), none⟩,
  ⟨(some 108), .ext (.t 105) 0, none⟩,
  ⟨(some 109), .ext (.t 105) 1, none⟩,
  ⟨(some 6), .mv (.t 108), none⟩,
  ⟨(some 7), .mv (.t 109), none⟩]
abbrev o_rotalaw05_KernNames_10 : List IOper := [⟨(some 111), .mv (.t 1), none⟩,
  ⟨(some 112), .build [(.int .i64 0), (.int .i64 0), (.int .u8 0), (.int .i64 0), (.sl none 0 0 false)] [(0, 1, (.k (.c (.int .i64 1))))], none⟩,
  ⟨(some 113), .bsl 48 1 [(.int .i64 0), (.int .i64 0), (.int .u8 0), (.int .i64 0), (.sl none 0 0 false)] [(0, 5, (.t 112))], none⟩,
  ⟨(some 114), .call (.k (.c (.fn fn_kern_Kernel_Run [] []))) [(.t 111), (.k (.c (.int .i64 2))), (.k (.c (.int .i64 0))), (.t 113)], none⟩,
  ⟨(some 110), .mv (.t 114), none⟩,
  ⟨(some 115), .ext (.t 110) 0, none⟩,
  ⟨(some 116), .ext (.t 110) 1, none⟩,
  ⟨(some 8), .mv (.t 115), none⟩,
  ⟨(some 9), .mv (.t 116), none⟩]
abbrev o_rotalaw05_KernNames_11 : List IOper := [⟨(some 118), .mv (.t 1), none⟩,
  ⟨(some 119), .build [(.int .i64 0), (.int .i64 0), (.int .u8 0), (.int .i64 0), (.sl none 0 0 false)] [(0, 1, (.k (.c (.int .i64 1))))], none⟩,
  ⟨(some 120), .bsl 48 1 [(.int .i64 0), (.int .i64 0), (.int .u8 0), (.int .i64 0), (.sl none 0 0 false)] [(0, 5, (.t 119))], none⟩,
  ⟨(some 121), .call (.k (.c (.fn fn_kern_Kernel_Run [] []))) [(.t 118), (.k (.c (.int .i64 0))), (.k (.c (.int .i64 (-1)))), (.t 120)], none⟩,
  ⟨(some 117), .mv (.t 121), none⟩,
  ⟨(some 122), .ext (.t 117) 0, none⟩,
  ⟨(some 123), .ext (.t 117) 1, none⟩,
  ⟨(some 10), .mv (.t 122), none⟩,
  ⟨(some 11), .mv (.t 123), none⟩]
abbrev o_rotalaw05_KernNames_12 : List IOper := [⟨(some 124), .mv (.t 5), none⟩,
  ⟨(some 125), .mv (.t 124), none⟩,
  ⟨(some 126), .mv (.t 3), some (125, true)⟩,
  ⟨(some 127), .bsl 33 2 [(.int .i64 0), (.int .i64 0)] [(0, 1, (.k (.c (.int .i64 0)))), (1, 1, (.k (.c (.int .i64 52))))], some (125, true)⟩,
  ⟨(some 128), .call (.k (.c (.fn fn_rotalaw05_are [] []))) [(.t 126), (.t 127)], some (125, true)⟩,
  ⟨(some 129), .pick (.t 125) (.t 128) (.k (.c (.bool false))), none⟩,
  ⟨(some 130), .mv (.t 129), none⟩,
  ⟨(some 131), .mv (.t 7), some (130, true)⟩,
  ⟨(some 132), .pick (.t 130) (.t 131) (.k (.c (.bool false))), none⟩,
  ⟨(some 133), .mv (.t 132), none⟩,
  ⟨(some 134), .mv (.t 6), some (133, true)⟩,
  ⟨(some 135), .b2s (.t 134), some (133, true)⟩,
  ⟨(some 136), .bin .eql (.t 135) (.k (.c (.str ⟨#[5]⟩))), some (133, true)⟩,
  ⟨(some 137), .pick (.t 133) (.t 136) (.k (.c (.bool false))), none⟩,
  ⟨(some 138), .mv (.t 137), none⟩,
  ⟨(some 139), .mv (.t 8), some (138, true)⟩,
  ⟨(some 140), .len false (.t 139), some (138, true)⟩,
  ⟨(some 141), .bin .eql (.t 140) (.k (.c (.int .i64 0))), some (138, true)⟩,
  ⟨(some 142), .pick (.t 138) (.t 141) (.k (.c (.bool false))), none⟩,
  ⟨(some 143), .mv (.t 142), none⟩,
  ⟨(some 144), .mv (.t 9), some (143, true)⟩,
  ⟨(some 145), .bin .eql (.t 144) (.k (.c (.int .i64 0))), some (143, true)⟩,
  ⟨(some 146), .pick (.t 143) (.t 145) (.k (.c (.bool false))), none⟩,
  ⟨(some 147), .mv (.t 146), none⟩,
  ⟨(some 148), .mv (.t 11), some (147, true)⟩,
  ⟨(some 149), .bin .eql (.t 148) (.k (.c (.int .i64 0))), some (147, true)⟩,
  ⟨(some 150), .pick (.t 147) (.t 149) (.k (.c (.bool false))), none⟩,
  ⟨(some 5), .mv (.t 150), none⟩]
abbrev o_rotalaw05_KernNames_13 : List IOper := [⟨(some 152), .call (.k (.c (.fn fn_rotalaw05_two [] []))) [], none⟩,
  ⟨(some 153), .call (.k (.c (.fn fn_kern_New [] []))) [(.t 152), (.k (.c (.int .i64 4)))], none⟩,
  ⟨(some 151), .mv (.t 153), none⟩,
  ⟨(some 154), .ext (.t 151) 0, none⟩,
  ⟨(some 155), .ext (.t 151) 1, none⟩,
  ⟨(some 12), .mv (.t 154), none⟩,
  ⟨(some 13), .mv (.t 155), none⟩]
abbrev o_rotalaw05_KernNames_14 : List IOper := [⟨(some 157), .build ([(.int .i64 0)] ++ [(.sl none 0 0 false)] ++ List.replicate 6 (.int .i64 0) ++ List.replicate 4 (.sl none 0 0 false)) [], none⟩,
  ⟨(some 158), .call (.k (.c (.fn fn_kern_New [] []))) [(.t 157), (.k (.c (.int .i64 0)))], none⟩,
  ⟨(some 156), .mv (.t 158), none⟩,
  ⟨(some 159), .ext (.t 156) 0, none⟩,
  ⟨(some 160), .ext (.t 156) 1, none⟩,
  ⟨(some 14), .mv (.t 159), none⟩,
  ⟨(some 15), .mv (.t 160), none⟩]
abbrev o_rotalaw05_KernNames_15 : List IOper := [⟨(some 16), .mv (.k (.c (.ptr none))), none⟩]
abbrev o_rotalaw05_KernNames_16 : List IOper := [⟨(some 17), .new 78 (.agg (List.replicate 2 (.int .i64 0) ++ List.replicate 4 (.sl none 0 0 false))), none⟩]
abbrev o_rotalaw05_KernNames_17 : List IOper := [⟨(some 162), .mv (.t 16), none⟩,
  ⟨(some 163), .call (.k (.c (.fn fn_kern_Kernel_Take [] []))) [(.t 162), (.k (.c (.int .i64 0)))], none⟩,
  ⟨(some 161), .mv (.t 163), none⟩,
  ⟨(some 164), .ext (.t 161) 0, none⟩,
  ⟨(some 165), .ext (.t 161) 1, none⟩,
  ⟨(some 18), .mv (.t 164), none⟩,
  ⟨(some 19), .mv (.t 165), none⟩]
abbrev o_rotalaw05_KernNames_18 : List IOper := [⟨(some 167), .build [(.int .i64 0), (.int .i64 0), (.int .u8 0), (.int .i64 0), (.sl none 0 0 false)] [(0, 1, (.k (.c (.int .i64 1))))], none⟩,
  ⟨(some 168), .bsl 48 1 [(.int .i64 0), (.int .i64 0), (.int .u8 0), (.int .i64 0), (.sl none 0 0 false)] [(0, 5, (.t 167))], none⟩,
  ⟨(some 169), .call (.k (.c (.fn fn_kern_Kernel_Run [] []))) [(.t 17), (.k (.c (.int .i64 0))), (.k (.c (.int .i64 0))), (.t 168)], none⟩,
  ⟨(some 166), .mv (.t 169), none⟩,
  ⟨(some 170), .ext (.t 166) 0, none⟩,
  ⟨(some 171), .ext (.t 166) 1, none⟩,
  ⟨(some 20), .mv (.t 170), none⟩,
  ⟨(some 21), .mv (.t 171), none⟩]
abbrev o_rotalaw05_KernNames_19 : List IOper := [⟨(some 172), .mv (.t 16), none⟩,
  ⟨(some 173), .call (.k (.c (.fn fn_kern_Kernel_Arrive [] []))) [(.t 172), (.k (.c (.int .i64 0))), (.k (.c (.sl none 0 0 false))), (.k (.c (.int .i64 0)))], none⟩,
  ⟨(some 174), .bin .eql (.t 173) (.k (.c (.int .i64 1))), none⟩,
  ⟨(some 175), .mv (.t 174), none⟩,
  ⟨(some 176), .call (.k (.c (.fn fn_kern_Kernel_Restart [] []))) [(.t 17)], some (175, true)⟩,
  ⟨(some 177), .bin .eql (.t 176) (.k (.c (.int .i64 1))), some (175, true)⟩,
  ⟨(some 178), .pick (.t 175) (.t 177) (.k (.c (.bool false))), none⟩,
  ⟨(some 179), .mv (.t 178), none⟩,
  ⟨(some 180), .mv (.t 16), some (179, true)⟩,
  ⟨(some 181), .call (.k (.c (.fn fn_kern_Kernel_Faults [] []))) [(.t 180), (.k (.c (.int .i64 0)))], some (179, true)⟩,
  ⟨(some 182), .bin .eql (.t 181) (.k (.c (.int .i64 0))), some (179, true)⟩,
  ⟨(some 183), .pick (.t 179) (.t 182) (.k (.c (.bool false))), none⟩,
  ⟨(some 184), .mv (.t 183), none⟩,
  ⟨(some 185), .call (.k (.c (.fn fn_kern_Kernel_Stopped [] []))) [(.t 17), (.k (.c (.int .i64 0)))], some (184, true)⟩,
  ⟨(some 186), .un .not (.t 185), some (184, true)⟩,
  ⟨(some 187), .pick (.t 184) (.t 186) (.k (.c (.bool false))), none⟩,
  ⟨(some 188), .mv (.t 187), none⟩,
  ⟨(some 189), .mv (.t 16), some (188, true)⟩,
  ⟨(some 190), .call (.k (.c (.fn fn_kern_Kernel_Memory [] []))) [(.t 189), (.k (.c (.int .i64 0)))], some (188, true)⟩,
  ⟨(some 191), .len false (.t 190), some (188, true)⟩,
  ⟨(some 192), .bin .eql (.t 191) (.k (.c (.int .i64 0))), some (188, true)⟩,
  ⟨(some 193), .pick (.t 188) (.t 192) (.k (.c (.bool false))), none⟩,
  ⟨(some 194), .mv (.t 193), none⟩,
  ⟨(some 195), .call (.k (.c (.fn fn_kern_Kernel_Waiting [] []))) [(.t 17), (.k (.c (.int .i64 0)))], some (194, true)⟩,
  ⟨(some 196), .bin .eql (.t 195) (.k (.c (.int .i64 0))), some (194, true)⟩,
  ⟨(some 197), .pick (.t 194) (.t 196) (.k (.c (.bool false))), none⟩,
  ⟨(some 198), .mv (.t 197), none⟩,
  ⟨(some 199), .mv (.t 19), some (198, true)⟩,
  ⟨(some 200), .un .not (.t 199), some (198, true)⟩,
  ⟨(some 201), .pick (.t 198) (.t 200) (.k (.c (.bool false))), none⟩,
  ⟨(some 202), .mv (.t 201), none⟩,
  ⟨(some 203), .mv (.t 20), some (202, true)⟩,
  ⟨(some 204), .len false (.t 203), some (202, true)⟩,
  ⟨(some 205), .bin .eql (.t 204) (.k (.c (.int .i64 0))), some (202, true)⟩,
  ⟨(some 206), .pick (.t 202) (.t 205) (.k (.c (.bool false))), none⟩,
  ⟨(some 207), .mv (.t 206), none⟩,
  ⟨(some 208), .mv (.t 21), some (207, true)⟩,
  ⟨(some 209), .bin .eql (.t 208) (.k (.c (.int .i64 0))), some (207, true)⟩,
  ⟨(some 210), .pick (.t 207) (.t 209) (.k (.c (.bool false))), none⟩,
  ⟨(some 22), .mv (.t 210), none⟩]
abbrev o_rotalaw05_KernNames_20 : List IOper := [⟨(some 211), .mv (.k (.c (.bool true))), none⟩,
  ⟨(some 212), .call (.k (.c (.fn fn_rotalaw05_alive [] []))) [], some (211, true)⟩,
  ⟨(some 213), .pick (.t 211) (.t 212) (.k (.c (.bool false))), none⟩,
  ⟨(some 214), .mv (.t 213), none⟩,
  ⟨(some 215), .mv (.t 5), some (214, true)⟩,
  ⟨(some 216), .pick (.t 214) (.t 215) (.k (.c (.bool false))), none⟩,
  ⟨(some 217), .mv (.t 216), none⟩,
  ⟨(some 218), .mv (.t 12), some (217, true)⟩,
  ⟨(some 219), .eq .ptr false (.t 218) (.k (.c (.ptr none))), some (217, true)⟩,
  ⟨(some 220), .pick (.t 217) (.t 219) (.k (.c (.bool false))), none⟩,
  ⟨(some 221), .mv (.t 220), none⟩,
  ⟨(some 222), .mv (.t 13), some (221, true)⟩,
  ⟨(some 223), .bin .eql (.t 222) (.k (.c (.int .i64 2))), some (221, true)⟩,
  ⟨(some 224), .pick (.t 221) (.t 223) (.k (.c (.bool false))), none⟩,
  ⟨(some 225), .mv (.t 224), none⟩,
  ⟨(some 226), .mv (.t 14), some (225, true)⟩,
  ⟨(some 227), .eq .ptr false (.t 226) (.k (.c (.ptr none))), some (225, true)⟩,
  ⟨(some 228), .pick (.t 225) (.t 227) (.k (.c (.bool false))), none⟩,
  ⟨(some 229), .mv (.t 228), none⟩,
  ⟨(some 230), .mv (.t 15), some (229, true)⟩,
  ⟨(some 231), .bin .eql (.t 230) (.k (.c (.int .i64 21))), some (229, true)⟩,
  ⟨(some 232), .pick (.t 229) (.t 231) (.k (.c (.bool false))), none⟩,
  ⟨(some 233), .mv (.t 232), none⟩,
  ⟨(some 234), .mv (.t 22), some (233, true)⟩,
  ⟨(some 235), .pick (.t 233) (.t 234) (.k (.c (.bool false))), none⟩,
  ⟨(some 236), .mv (.t 235), none⟩,
  ⟨(some 237), .mv (.t 1), some (236, true)⟩,
  ⟨(some 238), .bsl 5 1 [(.int .u8 0)] [(0, 1, (.k (.c (.int .u8 1))))], some (236, true)⟩,
  ⟨(some 239), .call (.k (.c (.fn fn_kern_Kernel_Arrive [] []))) [(.t 237), (.k (.c (.int .i64 0))), (.t 238), (.k (.c (.int .i64 0)))], some (236, true)⟩,
  ⟨(some 240), .bin .eql (.t 239) (.k (.c (.int .i64 40))), some (236, true)⟩,
  ⟨(some 241), .pick (.t 236) (.t 240) (.k (.c (.bool false))), none⟩,
  ⟨(some 242), .mv (.t 241), none⟩,
  ⟨(some 243), .mv (.t 1), some (242, true)⟩,
  ⟨(some 244), .call (.k (.c (.fn fn_kern_Kernel_Arrive [] []))) [(.t 243), (.k (.c (.int .i64 1))), (.k (.c (.sl none 0 0 false))), (.k (.c (.int .i64 0)))], some (242, true)⟩,
  ⟨(some 245), .bin .eql (.t 244) (.k (.c (.int .i64 40))), some (242, true)⟩,
  ⟨(some 246), .pick (.t 242) (.t 245) (.k (.c (.bool false))), none⟩,
  ⟨(some 247), .mv (.t 246), none⟩,
  ⟨(some 248), .mv (.t 1), some (247, true)⟩,
  ⟨(some 249), .call (.k (.c (.fn fn_kern_Kernel_Memory [] []))) [(.t 248), (.k (.c (.int .i64 0)))], some (247, true)⟩,
  ⟨(some 250), .len false (.t 249), some (247, true)⟩,
  ⟨(some 251), .bin .eql (.t 250) (.k (.c (.int .i64 4))), some (247, true)⟩,
  ⟨(some 252), .pick (.t 247) (.t 251) (.k (.c (.bool false))), none⟩,
  ⟨(some 253), .mv (.t 252), none⟩,
  ⟨(some 254), .mv (.t 1), some (253, true)⟩,
  ⟨(some 255), .call (.k (.c (.fn fn_kern_Kernel_Memory [] []))) [(.t 254), (.k (.c (.int .i64 2)))], some (253, true)⟩,
  ⟨(some 256), .len false (.t 255), some (253, true)⟩,
  ⟨(some 257), .bin .eql (.t 256) (.k (.c (.int .i64 0))), some (253, true)⟩,
  ⟨(some 258), .pick (.t 253) (.t 257) (.k (.c (.bool false))), none⟩,
  ⟨(some 0), .mv (.t 258), none⟩]
def c_rotalaw05_KernNames : IC := (.seq (.ops o_rotalaw05_KernNames_0) (.seq (.ops o_rotalaw05_KernNames_1) (.seq (.ops o_rotalaw05_KernNames_2) (.seq (.ops o_rotalaw05_KernNames_3) (.seq (.ops o_rotalaw05_KernNames_4) (.seq (.ops o_rotalaw05_KernNames_5) (.seq (.ops o_rotalaw05_KernNames_6) (.seq (.ops o_rotalaw05_KernNames_7) (.seq (.ops o_rotalaw05_KernNames_8) (.seq (.ops o_rotalaw05_KernNames_9) (.seq (.ops o_rotalaw05_KernNames_10) (.seq (.ops o_rotalaw05_KernNames_11) (.seq (.ops o_rotalaw05_KernNames_12) (.seq (.ops o_rotalaw05_KernNames_13) (.seq (.ops o_rotalaw05_KernNames_14) (.seq (.ops o_rotalaw05_KernNames_15) (.seq (.ops o_rotalaw05_KernNames_16) (.seq (.ops o_rotalaw05_KernNames_17) (.seq (.ops o_rotalaw05_KernNames_18) (.seq (.ops o_rotalaw05_KernNames_19) (.seq (.ops o_rotalaw05_KernNames_20) .ret)))))))))))))))))))))
def i_rotalaw05_KernNames : IFn := ⟨259, c_rotalaw05_KernNames, [(0, none)]⟩

-- F 7 rota/rotalaw05.alive: bads 0, calls [20, 9, 11, 21, 13]
abbrev o_rotalaw05_alive_0 : List IOper := [⟨(some 0), .mv (.k (.c (.bool false))), none⟩]
abbrev o_rotalaw05_alive_1 : List IOper := [⟨(some 6), .call (.k (.c (.fn fn_rotalaw05_two [] []))) [], none⟩,
  ⟨(some 7), .call (.k (.c (.fn fn_kern_New [] []))) [(.t 6), (.k (.c (.int .i64 0)))], none⟩,
  ⟨(some 5), .mv (.t 7), none⟩,
  ⟨(some 8), .ext (.t 5) 0, none⟩,
  ⟨(some 9), .ext (.t 5) 1, none⟩,
  ⟨(some 1), .mv (.t 8), none⟩,
  ⟨(some 2), .mv (.t 9), none⟩]
abbrev o_rotalaw05_alive_2 : List IOper := [⟨(some 11), .mv (.t 1), none⟩,
  ⟨(some 12), .build [(.int .i64 0), (.int .i64 0), (.int .u8 0), (.int .i64 0), (.sl none 0 0 false)] [(0, 1, (.k (.c (.int .i64 2)))), (1, 1, (.k (.c (.int .i64 3)))), (2, 1, (.k (.c (.int .u8 9))))], none⟩,
  ⟨(some 13), .build [(.int .i64 0), (.int .i64 0), (.int .u8 0), (.int .i64 0), (.sl none 0 0 false)] [(0, 1, (.k (.c (.int .i64 1)))), (1, 1, (.k (.c (.int .i64 3))))], none⟩,
  ⟨(some 14), .build [(.int .i64 0), (.int .i64 0), (.int .u8 0), (.int .i64 0), (.sl none 0 0 false)] [(0, 1, (.k (.c (.int .i64 1)))), (1, 1, (.k (.c (.int .i64 4))))], none⟩,
  ⟨(some 15), .build [(.int .i64 0), (.int .i64 0), (.int .u8 0), (.int .i64 0), (.sl none 0 0 false)] [(0, 1, (.k (.c (.int .i64 1))))], none⟩,
  ⟨(some 16), .bsl 48 4 [(.int .i64 0), (.int .i64 0), (.int .u8 0), (.int .i64 0), (.sl none 0 0 false), (.int .i64 0), (.int .i64 0), (.int .u8 0), (.int .i64 0), (.sl none 0 0 false), (.int .i64 0), (.int .i64 0), (.int .u8 0), (.int .i64 0), (.sl none 0 0 false), (.int .i64 0), (.int .i64 0), (.int .u8 0), (.int .i64 0), (.sl none 0 0 false)] [(0, 5, (.t 12)), (5, 5, (.t 13)), (10, 5, (.t 14)), (15, 5, (.t 15))], none⟩,
  ⟨(some 17), .call (.k (.c (.fn fn_kern_Kernel_Run [] []))) [(.t 11), (.k (.c (.int .i64 0))), (.k (.c (.int .i64 7))), (.t 16)], none⟩,
  ⟨(some 10), .mv (.t 17), none⟩,
  ⟨(some 18), .ext (.t 10) 0, none⟩,
  ⟨(some 19), .ext (.t 10) 1, none⟩,
  ⟨(some 3), .mv (.t 18), none⟩,
  ⟨(some 4), .mv (.t 19), none⟩]
abbrev o_rotalaw05_alive_3 : List IOper := [⟨(some 20), .mv (.t 2), none⟩,
  ⟨(some 21), .bin .eql (.t 20) (.k (.c (.int .i64 0))), none⟩,
  ⟨(some 22), .mv (.t 21), none⟩,
  ⟨(some 23), .mv (.t 4), some (22, true)⟩,
  ⟨(some 24), .bin .eql (.t 23) (.k (.c (.int .i64 3))), some (22, true)⟩,
  ⟨(some 25), .pick (.t 22) (.t 24) (.k (.c (.bool false))), none⟩,
  ⟨(some 26), .mv (.t 25), none⟩,
  ⟨(some 27), .mv (.t 3), some (26, true)⟩,
  ⟨(some 28), .bsl 33 3 [(.int .i64 0), (.int .i64 0), (.int .i64 0)] [(0, 1, (.k (.c (.int .i64 0)))), (1, 1, (.k (.c (.int .i64 0)))), (2, 1, (.k (.c (.int .i64 50))))], some (26, true)⟩,
  ⟨(some 29), .call (.k (.c (.fn fn_rotalaw05_are [] []))) [(.t 27), (.t 28)], some (26, true)⟩,
  ⟨(some 30), .pick (.t 26) (.t 29) (.k (.c (.bool false))), none⟩,
  ⟨(some 31), .mv (.t 30), none⟩,
  ⟨(some 32), .mv (.t 3), some (31, true)⟩,
  ⟨(some 33), .iaS 3 (.t 32) (.k (.c (.int .i64 1))), some (31, true)⟩,
  ⟨(some 34), .fa 2 (.t 33), some (31, true)⟩,
  ⟨(some 35), .ld none (.t 34), some (31, true)⟩,
  ⟨(some 36), .b2s (.t 35), some (31, true)⟩,
  ⟨(some 37), .bin .eql (.t 36) (.k (.c (.str ⟨#[9]⟩))), some (31, true)⟩,
  ⟨(some 38), .pick (.t 31) (.t 37) (.k (.c (.bool false))), none⟩,
  ⟨(some 39), .mv (.t 38), none⟩,
  ⟨(some 40), .mv (.t 3), some (39, true)⟩,
  ⟨(some 41), .iaS 3 (.t 40) (.k (.c (.int .i64 2))), some (39, true)⟩,
  ⟨(some 42), .fa 0 (.t 41), some (39, true)⟩,
  ⟨(some 43), .ld none (.t 42), some (39, true)⟩,
  ⟨(some 44), .bin .eql (.t 43) (.k (.c (.int .i64 7))), some (39, true)⟩,
  ⟨(some 45), .pick (.t 39) (.t 44) (.k (.c (.bool false))), none⟩,
  ⟨(some 46), .mv (.t 45), none⟩,
  ⟨(some 47), .mv (.t 3), some (46, true)⟩,
  ⟨(some 48), .iaS 3 (.t 47) (.k (.c (.int .i64 0))), some (46, true)⟩,
  ⟨(some 49), .fa 2 (.t 48), some (46, true)⟩,
  ⟨(some 50), .ld none (.t 49), some (46, true)⟩,
  ⟨(some 51), .len false (.t 50), some (46, true)⟩,
  ⟨(some 52), .mv (.t 3), some (46, true)⟩,
  ⟨(some 53), .iaS 3 (.t 52) (.k (.c (.int .i64 2))), some (46, true)⟩,
  ⟨(some 54), .fa 2 (.t 53), some (46, true)⟩,
  ⟨(some 55), .ld none (.t 54), some (46, true)⟩,
  ⟨(some 56), .len false (.t 55), some (46, true)⟩,
  ⟨(some 57), .bin .add (.t 51) (.t 56), some (46, true)⟩,
  ⟨(some 58), .bin .eql (.t 57) (.k (.c (.int .i64 0))), some (46, true)⟩,
  ⟨(some 59), .pick (.t 46) (.t 58) (.k (.c (.bool false))), none⟩,
  ⟨(some 60), .mv (.t 59), none⟩,
  ⟨(some 61), .mv (.t 1), some (60, true)⟩,
  ⟨(some 62), .call (.k (.c (.fn fn_kern_Kernel_Faults [] []))) [(.t 61), (.k (.c (.int .i64 0)))], some (60, true)⟩,
  ⟨(some 63), .bin .eql (.t 62) (.k (.c (.int .i64 1))), some (60, true)⟩,
  ⟨(some 64), .pick (.t 60) (.t 63) (.k (.c (.bool false))), none⟩,
  ⟨(some 0), .mv (.t 64), none⟩]
def c_rotalaw05_alive : IC := (.seq (.ops o_rotalaw05_alive_0) (.seq (.ops o_rotalaw05_alive_1) (.seq (.ops o_rotalaw05_alive_2) (.seq (.ops o_rotalaw05_alive_3) .ret))))
def i_rotalaw05_alive : IFn := ⟨65, c_rotalaw05_alive, [(0, none)]⟩

-- F 8 rota/rotalaw05.great: bads 0, calls []
abbrev o_rotalaw05_great_0 : List IOper := [⟨(some 2), .mv (.k (.c (.bool false))), none⟩]
abbrev o_rotalaw05_great_1 : List IOper := [⟨(some 5), .mv (.t 0), none⟩,
  ⟨(some 6), .len false (.t 5), none⟩,
  ⟨(some 7), .bin .gtr (.t 6) (.k (.c (.int .i64 300))), none⟩]
abbrev o_rotalaw05_great_2 : List IOper := [⟨(some 2), .mv (.k (.c (.bool true))), none⟩]
abbrev o_rotalaw05_great_3 : List IOper := [⟨(some 8), .mv (.t 0), none⟩,
  ⟨(some 9), .len false (.t 8), none⟩,
  ⟨(some 10), .mv (.k (.c (.int .i64 0))), none⟩]
abbrev o_rotalaw05_great_4 : List IOper := [⟨(some 11), .bin .lss (.t 10) (.t 9), none⟩]
abbrev o_rotalaw05_great_5 : List IOper := [⟨(some 12), .mv (.t 10), none⟩,
  ⟨(some 3), .mv (.t 12), none⟩]
abbrev o_rotalaw05_great_6 : List IOper := [⟨(some 13), .mv (.t 0), none⟩,
  ⟨(some 14), .mv (.t 3), none⟩,
  ⟨(some 15), .iaS 5 (.t 13) (.t 14), none⟩,
  ⟨(some 16), .fa 4 (.t 15), none⟩,
  ⟨(some 17), .ld none (.t 16), none⟩,
  ⟨(some 18), .len false (.t 17), none⟩,
  ⟨(some 19), .bin .gtr (.t 18) (.k (.c (.int .i64 100))), none⟩,
  ⟨(some 20), .mv (.t 19), none⟩,
  ⟨(some 21), .mv (.t 0), some (20, false)⟩,
  ⟨(some 22), .mv (.t 3), some (20, false)⟩,
  ⟨(some 23), .iaS 5 (.t 21) (.t 22), some (20, false)⟩,
  ⟨(some 24), .fa 3 (.t 23), some (20, false)⟩,
  ⟨(some 25), .ld none (.t 24), some (20, false)⟩,
  ⟨(some 26), .len false (.t 25), some (20, false)⟩,
  ⟨(some 27), .bin .gtr (.t 26) (.k (.c (.int .i64 100))), some (20, false)⟩,
  ⟨(some 28), .pick (.t 20) (.k (.c (.bool true))) (.t 27), none⟩]
abbrev o_rotalaw05_great_7 : List IOper := [⟨(some 2), .mv (.k (.c (.bool true))), none⟩]
abbrev o_rotalaw05_great_8 : List IOper := [⟨(some 29), .mv (.t 0), none⟩,
  ⟨(some 30), .mv (.t 3), none⟩,
  ⟨(some 31), .iaS 5 (.t 29) (.t 30), none⟩,
  ⟨(some 32), .fa 4 (.t 31), none⟩,
  ⟨(some 33), .ld none (.t 32), none⟩,
  ⟨(some 34), .len false (.t 33), none⟩,
  ⟨(some 35), .mv (.k (.c (.int .i64 0))), none⟩]
abbrev o_rotalaw05_great_9 : List IOper := [⟨(some 36), .bin .lss (.t 35) (.t 34), none⟩]
abbrev o_rotalaw05_great_10 : List IOper := [⟨(some 37), .mv (.t 35), none⟩,
  ⟨(some 4), .mv (.t 37), none⟩]
abbrev o_rotalaw05_great_11 : List IOper := [⟨(some 38), .mv (.t 0), none⟩,
  ⟨(some 39), .mv (.t 3), none⟩,
  ⟨(some 40), .iaS 5 (.t 38) (.t 39), none⟩,
  ⟨(some 41), .fa 4 (.t 40), none⟩,
  ⟨(some 42), .ld none (.t 41), none⟩,
  ⟨(some 43), .mv (.t 4), none⟩,
  ⟨(some 44), .iaS 5 (.t 42) (.t 43), none⟩,
  ⟨(some 45), .fa 4 (.t 44), none⟩,
  ⟨(some 46), .ld none (.t 45), none⟩,
  ⟨(some 47), .len false (.t 46), none⟩,
  ⟨(some 48), .bin .gtr (.t 47) (.k (.c (.int .i64 100))), none⟩]
abbrev o_rotalaw05_great_12 : List IOper := [⟨(some 2), .mv (.k (.c (.bool true))), none⟩]
abbrev o_rotalaw05_great_13 : List IOper := [⟨(some 49), .bin .add (.t 35) (.k (.c (.int .i64 1))), none⟩,
  ⟨(some 35), .mv (.t 49), none⟩]
def b_rotalaw05_great_14 : IC := (.seq (.ops o_rotalaw05_great_9) (.seq (.cond (.t 36) .skip (.exit 2)) (.seq (.block 3 (.seq (.ops o_rotalaw05_great_10) (.seq (.ops o_rotalaw05_great_11) (.cond (.t 48) (.seq (.ops o_rotalaw05_great_12) .ret) .skip)))) (.ops o_rotalaw05_great_13))))
abbrev o_rotalaw05_great_15 : List IOper := [⟨(some 50), .bin .add (.t 10) (.k (.c (.int .i64 1))), none⟩,
  ⟨(some 10), .mv (.t 50), none⟩]
def b_rotalaw05_great_16 : IC := (.seq (.ops o_rotalaw05_great_4) (.seq (.cond (.t 11) .skip (.exit 0)) (.seq (.block 1 (.seq (.ops o_rotalaw05_great_5) (.seq (.seq (.ops o_rotalaw05_great_6) (.cond (.t 28) (.seq (.ops o_rotalaw05_great_7) .ret) .skip)) (.seq (.ops o_rotalaw05_great_8) (.block 2 (.loop b_rotalaw05_great_14)))))) (.ops o_rotalaw05_great_15))))
abbrev o_rotalaw05_great_17 : List IOper := [⟨(some 2), .mv (.k (.c (.bool false))), none⟩]
def c_rotalaw05_great : IC := (.seq (.ops o_rotalaw05_great_0) (.seq (.seq (.ops o_rotalaw05_great_1) (.cond (.t 7) (.seq (.ops o_rotalaw05_great_2) .ret) .skip)) (.seq (.seq (.ops o_rotalaw05_great_3) (.block 0 (.loop b_rotalaw05_great_16))) (.seq (.ops o_rotalaw05_great_17) .ret))))
def i_rotalaw05_great : IFn := ⟨51, c_rotalaw05_great, [(2, none)]⟩

-- F 9 rota/kern.New: bads 0, calls [25, 26, 27, 10]
abbrev o_kern_New_0 : List IOper := [⟨(some 2), .box 28 (.t 0), none⟩,
  ⟨(some 4), .mv (.k (.c (.ptr none))), none⟩,
  ⟨(some 5), .mv (.k (.c (.int .i64 0))), none⟩]
abbrev o_kern_New_1 : List IOper := [⟨(some 8), .ld (some 12) (.t 2), none⟩,
  ⟨(some 9), .call (.k (.c (.fn fn_config_Check [] []))) [(.t 8)], none⟩,
  ⟨(some 6), .mv (.t 9), none⟩]
abbrev o_kern_New_2 : List IOper := [⟨(some 10), .mv (.t 6), none⟩,
  ⟨(some 11), .bin .neq (.t 10) (.k (.c (.int .i64 0))), none⟩]
abbrev o_kern_New_3 : List IOper := [⟨(some 12), .mv (.t 6), none⟩,
  ⟨(some 4), .mv (.k (.c (.ptr none))), none⟩,
  ⟨(some 5), .mv (.t 12), none⟩]
abbrev o_kern_New_4 : List IOper := [⟨(some 13), .mv (.t 1), none⟩,
  ⟨(some 14), .bin .lss (.t 13) (.k (.c (.int .i64 0))), none⟩,
  ⟨(some 15), .mv (.t 14), none⟩,
  ⟨(some 16), .mv (.t 1), some (15, false)⟩,
  ⟨(some 17), .fa 0 (.t 2), some (15, false)⟩,
  ⟨(some 18), .ld none (.t 17), some (15, false)⟩,
  ⟨(some 19), .bin .geq (.t 16) (.t 18), some (15, false)⟩,
  ⟨(some 20), .pick (.t 15) (.k (.c (.bool true))) (.t 19), none⟩]
abbrev o_kern_New_5 : List IOper := [⟨(some 4), .mv (.k (.c (.ptr none))), none⟩,
  ⟨(some 5), .mv (.k (.c (.int .i64 2))), none⟩]
abbrev o_kern_New_6 : List IOper := [⟨(some 27), .fa 10 (.t 2), none⟩,
  ⟨(some 28), .ld none (.t 27), none⟩,
  ⟨(some 24), .fa 8 (.t 2), none⟩,
  ⟨(some 25), .ld none (.t 24), none⟩,
  ⟨(some 23), .mv (.t 1), none⟩,
  ⟨(some 21), .fa 7 (.t 2), none⟩,
  ⟨(some 22), .ld none (.t 21), none⟩,
  ⟨(some 26), .call (.k (.c (.fn fn_slices_Clone_api_Part_api_Part [] []))) [(.t 25)], none⟩,
  ⟨none, .same (some none) (.t 27) (.t 28), none⟩,
  ⟨none, .same (some none) (.t 21) (.t 22), none⟩,
  ⟨(some 29), .call (.k (.c (.fn fn_slices_Clone_api_Port_api_Port [] []))) [(.t 28)], none⟩,
  ⟨none, .same (some none) (.t 21) (.t 22), none⟩,
  ⟨(some 30), .build (List.replicate 2 (.int .i64 0) ++ List.replicate 4 (.sl none 0 0 false)) [(0, 1, (.t 22)), (1, 1, (.t 23)), (2, 1, (.t 26)), (3, 1, (.t 29))], none⟩,
  ⟨(some 31), .box 78 (.t 30), none⟩,
  ⟨(some 7), .mv (.t 31), none⟩]
abbrev o_kern_New_7 : List IOper := [⟨(some 32), .mv (.t 7), none⟩,
  ⟨(some 33), .call (.k (.c (.fn fn_kern_Kernel_Restart [] []))) [(.t 32)], none⟩]
abbrev o_kern_New_8 : List IOper := [⟨(some 34), .mv (.t 7), none⟩,
  ⟨(some 4), .mv (.t 34), none⟩,
  ⟨(some 5), .mv (.k (.c (.int .i64 0))), none⟩]
def c_kern_New : IC := (.seq (.ops o_kern_New_0) (.seq (.seq (.ops o_kern_New_1) (.seq (.ops o_kern_New_2) (.cond (.t 11) (.seq (.ops o_kern_New_3) .ret) .skip))) (.seq (.seq (.ops o_kern_New_4) (.cond (.t 20) (.seq (.ops o_kern_New_5) .ret) .skip)) (.seq (.ops o_kern_New_6) (.seq (.ops o_kern_New_7) (.seq (.ops o_kern_New_8) .ret))))))
def i_kern_New : IFn := ⟨35, c_kern_New, [(4, none), (5, none)]⟩

-- F 10 (*rota/kern.Kernel).Restart: bads 0, calls [28, 29]
abbrev o_kern_Kernel_Restart_0 : List IOper := [⟨(some 2), .mv (.k (.c (.int .i64 0))), none⟩]
abbrev o_kern_Kernel_Restart_1 : List IOper := [⟨(some 8), .mv (.t 0), none⟩,
  ⟨(some 9), .call (.k (.c (.fn fn_kern_Kernel_none [] []))) [(.t 8)], none⟩]
abbrev o_kern_Kernel_Restart_2 : List IOper := [⟨(some 2), .mv (.k (.c (.int .i64 1))), none⟩]
abbrev o_kern_Kernel_Restart_3 : List IOper := [⟨(some 10), .mksl 5 1 1 [(.int .u8 0)] (.k (.c (.int .i64 256))) (.k (.c (.int .i64 256))), none⟩,
  ⟨(some 3), .mv (.t 10), none⟩]
abbrev o_kern_Kernel_Restart_4 : List IOper := [⟨(some 11), .mv (.t 0), none⟩,
  ⟨(some 12), .mv (.t 0), none⟩,
  ⟨(some 13), .nilck (.t 12), none⟩,
  ⟨(some 14), .fa 2 (.t 13), none⟩,
  ⟨(some 15), .ld none (.t 14), none⟩,
  ⟨(some 16), .len false (.t 15), none⟩,
  ⟨(some 17), .mksl 84 3 40 [(.bool false), (.sl none 0 0 false), (.int .i64 0)] (.t 16) (.t 16), none⟩,
  ⟨(some 18), .nilck (.t 11), none⟩,
  ⟨(some 19), .fa 4 (.t 18), none⟩,
  ⟨none, .st 1 (.t 19) (.t 17), none⟩]
abbrev o_kern_Kernel_Restart_5 : List IOper := [⟨(some 20), .mv (.t 0), none⟩,
  ⟨(some 21), .nilck (.t 20), none⟩,
  ⟨(some 22), .fa 2 (.t 21), none⟩,
  ⟨(some 23), .ld none (.t 22), none⟩,
  ⟨(some 24), .len false (.t 23), none⟩,
  ⟨(some 25), .mv (.k (.c (.int .i64 0))), none⟩]
abbrev o_kern_Kernel_Restart_6 : List IOper := [⟨(some 26), .bin .lss (.t 25) (.t 24), none⟩]
abbrev o_kern_Kernel_Restart_7 : List IOper := [⟨(some 27), .mv (.t 25), none⟩,
  ⟨(some 28), .iaS 3 (.t 23) (.t 25), none⟩,
  ⟨(some 29), .ld (some 3) (.t 28), none⟩,
  ⟨(some 5), .new 38 (.agg [(.int .i64 0), (.int .i64 0), (.int .i64 0)]), none⟩,
  ⟨(some 4), .mv (.t 27), none⟩,
  ⟨none, .st 3 (.t 5) (.t 29), none⟩]
abbrev o_kern_Kernel_Restart_8 : List IOper := [⟨(some 30), .fa 0 (.t 5), none⟩,
  ⟨(some 31), .ld none (.t 30), none⟩,
  ⟨(some 32), .mv (.t 0), none⟩,
  ⟨(some 33), .nilck (.t 32), none⟩,
  ⟨(some 34), .fa 1 (.t 33), none⟩,
  ⟨(some 35), .ld none (.t 34), none⟩,
  ⟨(some 36), .bin .eql (.t 31) (.t 35), none⟩]
abbrev o_kern_Kernel_Restart_9 : List IOper := [⟨(some 37), .mv (.t 0), none⟩,
  ⟨(some 38), .nilck (.t 37), none⟩,
  ⟨(some 39), .fa 4 (.t 38), none⟩,
  ⟨(some 40), .ld none (.t 39), none⟩,
  ⟨(some 41), .mv (.t 4), none⟩,
  ⟨(some 42), .mv (.t 3), none⟩,
  ⟨(some 43), .fa 1 (.t 5), none⟩,
  ⟨(some 44), .ld none (.t 43), none⟩,
  ⟨(some 45), .fa 2 (.t 5), none⟩,
  ⟨(some 46), .ld none (.t 45), none⟩,
  ⟨(some 47), .fa 2 (.t 5), none⟩,
  ⟨(some 48), .ld none (.t 47), none⟩,
  ⟨(some 49), .slS 1 (.t 42) (some (.t 44)) (some (.t 46)) (some (.t 48)), none⟩,
  ⟨(some 50), .build [(.bool false), (.sl none 0 0 false), (.int .i64 0)] [(0, 1, (.k (.c (.bool true)))), (1, 1, (.t 49))], none⟩,
  ⟨(some 51), .iaS 3 (.t 40) (.t 41), none⟩,
  ⟨none, .st 3 (.t 51) (.t 50), none⟩]
abbrev o_kern_Kernel_Restart_10 : List IOper := [⟨(some 52), .bin .add (.t 25) (.k (.c (.int .i64 1))), none⟩,
  ⟨(some 25), .mv (.t 52), none⟩]
def b_kern_Kernel_Restart_11 : IC := (.seq (.ops o_kern_Kernel_Restart_6) (.seq (.cond (.t 26) .skip (.exit 0)) (.seq (.block 1 (.seq (.ops o_kern_Kernel_Restart_7) (.seq (.ops o_kern_Kernel_Restart_8) (.cond (.t 36) (.ops o_kern_Kernel_Restart_9) .skip)))) (.ops o_kern_Kernel_Restart_10))))
abbrev o_kern_Kernel_Restart_12 : List IOper := [⟨(some 53), .mv (.t 0), none⟩,
  ⟨(some 54), .mv (.t 0), none⟩,
  ⟨(some 55), .nilck (.t 54), none⟩,
  ⟨(some 56), .fa 3 (.t 55), none⟩,
  ⟨(some 57), .ld none (.t 56), none⟩,
  ⟨(some 58), .len false (.t 57), none⟩,
  ⟨(some 59), .mksl 85 1 8 [(.ptr none)] (.t 58) (.t 58), none⟩,
  ⟨(some 60), .nilck (.t 53), none⟩,
  ⟨(some 61), .fa 5 (.t 60), none⟩,
  ⟨none, .st 1 (.t 61) (.t 59), none⟩]
abbrev o_kern_Kernel_Restart_13 : List IOper := [⟨(some 62), .mv (.t 0), none⟩,
  ⟨(some 63), .nilck (.t 62), none⟩,
  ⟨(some 64), .fa 3 (.t 63), none⟩,
  ⟨(some 65), .ld none (.t 64), none⟩,
  ⟨(some 66), .len false (.t 65), none⟩,
  ⟨(some 67), .mv (.k (.c (.int .i64 0))), none⟩]
abbrev o_kern_Kernel_Restart_14 : List IOper := [⟨(some 68), .bin .lss (.t 67) (.t 66), none⟩]
abbrev o_kern_Kernel_Restart_15 : List IOper := [⟨(some 69), .mv (.t 67), none⟩,
  ⟨(some 70), .iaS 6 (.t 65) (.t 67), none⟩,
  ⟨(some 71), .ld (some 6) (.t 70), none⟩,
  ⟨(some 7), .new 67 (.agg (List.replicate 6 (.int .i64 0))), none⟩,
  ⟨(some 6), .mv (.t 69), none⟩,
  ⟨none, .st 6 (.t 7) (.t 71), none⟩]
abbrev o_kern_Kernel_Restart_16 : List IOper := [⟨(some 72), .mv (.t 0), none⟩,
  ⟨(some 73), .nilck (.t 72), none⟩,
  ⟨(some 74), .fa 4 (.t 73), none⟩,
  ⟨(some 75), .ld none (.t 74), none⟩,
  ⟨(some 76), .fa 0 (.t 7), none⟩,
  ⟨(some 77), .ld none (.t 76), none⟩,
  ⟨(some 78), .iaS 3 (.t 75) (.t 77), none⟩,
  ⟨(some 79), .fa 0 (.t 78), none⟩,
  ⟨(some 80), .ld none (.t 79), none⟩]
abbrev o_kern_Kernel_Restart_17 : List IOper := [⟨(some 87), .ld (some 6) (.t 7), none⟩,
  ⟨(some 86), .mv (.t 6), none⟩,
  ⟨(some 82), .mv (.t 0), none⟩,
  ⟨(some 83), .nilck (.t 82), none⟩,
  ⟨(some 84), .fa 5 (.t 83), none⟩,
  ⟨(some 85), .ld none (.t 84), none⟩,
  ⟨(some 88), .call (.k (.c (.fn fn_port_New [] []))) [(.t 87)], none⟩,
  ⟨none, .same (some none) (.t 84) (.t 85), none⟩,
  ⟨(some 81), .mv (.t 88), none⟩,
  ⟨(some 90), .ext (.t 81) 1, none⟩,
  ⟨(some 89), .ext (.t 81) 0, none⟩,
  ⟨(some 91), .iaS 1 (.t 85) (.t 86), none⟩,
  ⟨none, .st 1 (.t 91) (.t 89), none⟩]
abbrev o_kern_Kernel_Restart_18 : List IOper := [⟨(some 92), .bin .add (.t 67) (.k (.c (.int .i64 1))), none⟩,
  ⟨(some 67), .mv (.t 92), none⟩]
def b_kern_Kernel_Restart_19 : IC := (.seq (.ops o_kern_Kernel_Restart_14) (.seq (.cond (.t 68) .skip (.exit 2)) (.seq (.block 3 (.seq (.ops o_kern_Kernel_Restart_15) (.seq (.ops o_kern_Kernel_Restart_16) (.cond (.t 80) (.ops o_kern_Kernel_Restart_17) .skip)))) (.ops o_kern_Kernel_Restart_18))))
abbrev o_kern_Kernel_Restart_20 : List IOper := [⟨(some 2), .mv (.k (.c (.int .i64 0))), none⟩]
def c_kern_Kernel_Restart : IC := (.seq (.ops o_kern_Kernel_Restart_0) (.seq (.seq (.ops o_kern_Kernel_Restart_1) (.cond (.t 9) (.seq (.ops o_kern_Kernel_Restart_2) .ret) .skip)) (.seq (.ops o_kern_Kernel_Restart_3) (.seq (.ops o_kern_Kernel_Restart_4) (.seq (.seq (.ops o_kern_Kernel_Restart_5) (.block 0 (.loop b_kern_Kernel_Restart_11))) (.seq (.ops o_kern_Kernel_Restart_12) (.seq (.seq (.ops o_kern_Kernel_Restart_13) (.block 2 (.loop b_kern_Kernel_Restart_19))) (.seq (.ops o_kern_Kernel_Restart_20) .ret))))))))
def i_kern_Kernel_Restart : IFn := ⟨93, c_kern_Kernel_Restart, [(2, none)]⟩

-- F 11 (*rota/kern.Kernel).Run: bads 0, calls [30, 31, 32, 33]
abbrev o_kern_Kernel_Run_0 : List IOper := [⟨(some 4), .box 32 (.t 0), none⟩,
  ⟨(some 5), .box 3 (.t 1), none⟩,
  ⟨(some 6), .box 3 (.t 2), none⟩,
  ⟨(some 8), .mv (.k (.c (.sl none 0 0 false))), none⟩,
  ⟨(some 9), .mv (.k (.c (.int .i64 0))), none⟩]
abbrev o_kern_Kernel_Run_1 : List IOper := [⟨(some 14), .ld none (.t 4), none⟩,
  ⟨(some 15), .ld none (.t 5), none⟩,
  ⟨(some 16), .call (.k (.c (.fn fn_kern_Kernel_of [] []))) [(.t 14), (.t 15)], none⟩,
  ⟨(some 17), .fld 0 none (.t 16), none⟩,
  ⟨(some 18), .un .not (.t 17), none⟩,
  ⟨(some 19), .mv (.t 18), none⟩,
  ⟨(some 20), .ld none (.t 6), some (19, false)⟩,
  ⟨(some 21), .bin .lss (.t 20) (.k (.c (.int .i64 0))), some (19, false)⟩,
  ⟨(some 22), .pick (.t 19) (.k (.c (.bool true))) (.t 21), none⟩]
abbrev o_kern_Kernel_Run_2 : List IOper := [⟨(some 8), .mv (.k (.c (.sl none 0 0 false))), none⟩,
  ⟨(some 9), .mv (.k (.c (.int .i64 0))), none⟩]
abbrev o_kern_Kernel_Run_3 : List IOper := [⟨(some 23), .ld none (.t 4), none⟩,
  ⟨(some 24), .nilck (.t 23), none⟩,
  ⟨(some 25), .fa 4 (.t 24), none⟩,
  ⟨(some 26), .ld none (.t 25), none⟩,
  ⟨(some 27), .ld none (.t 5), none⟩,
  ⟨(some 28), .iaS 3 (.t 26) (.t 27), none⟩,
  ⟨(some 10), .new 89 (.c (.ptr none)), none⟩,
  ⟨none, .st 1 (.t 10) (.t 28), none⟩]
abbrev o_kern_Kernel_Run_4 : List IOper := [⟨(some 11), .new 44 (.c (.sl none 0 0 false)), none⟩]
abbrev o_kern_Kernel_Run_5 : List IOper := [⟨(some 29), .mv (.t 3), none⟩,
  ⟨(some 30), .ld none (.t 4), none⟩,
  ⟨(some 31), .nilck (.t 30), none⟩,
  ⟨(some 32), .fa 0 (.t 31), none⟩,
  ⟨(some 33), .ld none (.t 32), none⟩,
  ⟨(some 34), .call (.k (.c (.fn fn_kern_window [] []))) [(.t 29), (.t 33)], none⟩]
abbrev o_kern_Kernel_Run_6 : List IOper := [⟨(some 12), .new 48 (.agg [(.int .i64 0), (.int .i64 0), (.int .u8 0), (.int .i64 0), (.sl none 0 0 false)]), none⟩,
  ⟨none, .st 5 (.t 12) (.t 35), none⟩]
abbrev o_kern_Kernel_Run_7 : List IOper := [⟨(some 36), .ld none (.t 6), none⟩,
  ⟨(some 37), .build [(.int .i64 0), (.int .i64 0), (.sl none 0 0 false)] [(0, 1, (.t 36)), (1, 1, (.k (.c (.int .i64 51))))], none⟩,
  ⟨(some 13), .new 50 (.agg [(.int .i64 0), (.int .i64 0), (.sl none 0 0 false)]), none⟩,
  ⟨none, .st 3 (.t 13) (.t 37), none⟩]
abbrev o_kern_Kernel_Run_8 : List IOper := [⟨(some 38), .ld none (.t 10), none⟩,
  ⟨(some 39), .call (.k (.c (.fn fn_kern_part_stopped [] []))) [(.t 38)], none⟩,
  ⟨(some 40), .un .not (.t 39), none⟩]
abbrev o_kern_Kernel_Run_9 : List IOper := [⟨(some 42), .ld none (.t 4), none⟩,
  ⟨(some 43), .ld none (.t 5), none⟩,
  ⟨(some 44), .ld none (.t 6), none⟩,
  ⟨(some 45), .ld (some 5) (.t 12), none⟩,
  ⟨(some 46), .call (.k (.c (.fn fn_kern_Kernel_do [] []))) [(.t 42), (.t 43), (.t 44), (.t 45)], none⟩,
  ⟨(some 41), .mv (.t 46), none⟩,
  ⟨(some 47), .ext (.t 41) 0, none⟩,
  ⟨(some 48), .ext (.t 41) 1, none⟩,
  ⟨(some 49), .fa 2 (.t 13), none⟩,
  ⟨none, .st 1 (.t 49) (.t 47), none⟩,
  ⟨(some 50), .fa 1 (.t 13), none⟩,
  ⟨none, .st 1 (.t 50) (.t 48), none⟩]
abbrev o_kern_Kernel_Run_10 : List IOper := [⟨(some 51), .fa 1 (.t 13), none⟩,
  ⟨(some 52), .ld none (.t 51), none⟩,
  ⟨(some 53), .bin .eql (.t 52) (.k (.c (.int .i64 50))), none⟩,
  ⟨(some 54), .mv (.t 53), none⟩,
  ⟨(some 55), .fa 1 (.t 13), some (54, false)⟩,
  ⟨(some 56), .ld none (.t 55), some (54, false)⟩,
  ⟨(some 57), .bin .eql (.t 56) (.k (.c (.int .i64 53))), some (54, false)⟩,
  ⟨(some 58), .pick (.t 54) (.k (.c (.bool true))) (.t 57), none⟩]
abbrev o_kern_Kernel_Run_11 : List IOper := [⟨(some 59), .ld none (.t 10), none⟩,
  ⟨(some 60), .nilck (.t 59), none⟩,
  ⟨(some 61), .fa 2 (.t 60), none⟩,
  ⟨(some 62), .ld none (.t 61), none⟩,
  ⟨(some 63), .bin .add (.t 62) (.k (.c (.int .i64 1))), none⟩,
  ⟨(some 64), .nilck (.t 59), none⟩,
  ⟨(some 65), .fa 2 (.t 64), none⟩,
  ⟨none, .st 1 (.t 65) (.t 63), none⟩]
abbrev o_kern_Kernel_Run_12 : List IOper := [⟨(some 66), .ld none (.t 11), none⟩,
  ⟨(some 67), .ld (some 3) (.t 13), none⟩,
  ⟨(some 68), .bsl 50 1 [(.int .i64 0), (.int .i64 0), (.sl none 0 0 false)] [(0, 3, (.t 67))], none⟩,
  ⟨(some 69), .app 50 3 40 (.t 66) (.t 68), none⟩,
  ⟨none, .st 1 (.t 11) (.t 69), none⟩]
def a_kern_Kernel_Run_13 : IC := (.ops o_kern_Kernel_Run_6)
def b_kern_Kernel_Run_14 : IC := (.block 1 (.seq (.ops o_kern_Kernel_Run_7) (.seq (.seq (.ops o_kern_Kernel_Run_8) (.cond (.t 40) (.ops o_kern_Kernel_Run_9) .skip)) (.seq (.seq (.ops o_kern_Kernel_Run_10) (.cond (.t 58) (.ops o_kern_Kernel_Run_11) .skip)) (.ops o_kern_Kernel_Run_12)))))
abbrev o_kern_Kernel_Run_15 : List IOper := [⟨(some 70), .ld none (.t 11), none⟩,
  ⟨(some 71), .ld none (.t 11), none⟩,
  ⟨(some 72), .len false (.t 71), none⟩,
  ⟨(some 8), .mv (.t 70), none⟩,
  ⟨(some 9), .mv (.t 72), none⟩]
def c_kern_Kernel_Run : IC := (.seq (.ops o_kern_Kernel_Run_0) (.seq (.seq (.ops o_kern_Kernel_Run_1) (.cond (.t 22) (.seq (.ops o_kern_Kernel_Run_2) .ret) .skip)) (.seq (.ops o_kern_Kernel_Run_3) (.seq (.ops o_kern_Kernel_Run_4) (.seq (.seq (.ops o_kern_Kernel_Run_5) (.block 0 (.rangeF (.t 34) [35] a_kern_Kernel_Run_13 b_kern_Kernel_Run_14))) (.seq (.ops o_kern_Kernel_Run_15) .ret))))))
def i_kern_Kernel_Run : IFn := ⟨73, c_kern_Kernel_Run, [(8, none), (9, none)]⟩

-- F 12 (*rota/kern.Kernel).Memory: bads 0, calls [30, 34]
abbrev o_kern_Kernel_Memory_0 : List IOper := [⟨(some 4), .mv (.k (.c (.sl none 0 0 false))), none⟩]
abbrev o_kern_Kernel_Memory_1 : List IOper := [⟨(some 5), .mv (.t 0), none⟩,
  ⟨(some 6), .mv (.t 1), none⟩,
  ⟨(some 7), .call (.k (.c (.fn fn_kern_Kernel_of [] []))) [(.t 5), (.t 6)], none⟩,
  ⟨(some 8), .fld 1 none (.t 7), none⟩,
  ⟨(some 9), .call (.k (.c (.fn fn_slices_Clone_byte_byte [] []))) [(.t 8)], none⟩,
  ⟨(some 4), .mv (.t 9), none⟩]
def c_kern_Kernel_Memory : IC := (.seq (.ops o_kern_Kernel_Memory_0) (.seq (.ops o_kern_Kernel_Memory_1) .ret))
def i_kern_Kernel_Memory : IFn := ⟨10, c_kern_Kernel_Memory, [(4, none)]⟩

-- F 13 (*rota/kern.Kernel).Faults: bads 0, calls [30]
abbrev o_kern_Kernel_Faults_0 : List IOper := [⟨(some 4), .mv (.k (.c (.int .i64 0))), none⟩]
abbrev o_kern_Kernel_Faults_1 : List IOper := [⟨(some 5), .mv (.t 0), none⟩,
  ⟨(some 6), .mv (.t 1), none⟩,
  ⟨(some 7), .call (.k (.c (.fn fn_kern_Kernel_of [] []))) [(.t 5), (.t 6)], none⟩,
  ⟨(some 8), .fld 2 none (.t 7), none⟩,
  ⟨(some 4), .mv (.t 8), none⟩]
def c_kern_Kernel_Faults : IC := (.seq (.ops o_kern_Kernel_Faults_0) (.seq (.ops o_kern_Kernel_Faults_1) .ret))
def i_kern_Kernel_Faults : IFn := ⟨9, c_kern_Kernel_Faults, [(4, none)]⟩

-- F 14 (*rota/kern.Kernel).Stopped: bads 0, calls [30, 32]
abbrev o_kern_Kernel_Stopped_0 : List IOper := [⟨(some 4), .mv (.k (.c (.bool false))), none⟩]
abbrev o_kern_Kernel_Stopped_1 : List IOper := [⟨(some 6), .mv (.t 0), none⟩,
  ⟨(some 7), .mv (.t 1), none⟩,
  ⟨(some 8), .call (.k (.c (.fn fn_kern_Kernel_of [] []))) [(.t 6), (.t 7)], none⟩,
  ⟨(some 5), .new 84 (.agg [(.bool false), (.sl none 0 0 false), (.int .i64 0)]), none⟩,
  ⟨none, .st 3 (.t 5) (.t 8), none⟩]
abbrev o_kern_Kernel_Stopped_2 : List IOper := [⟨(some 9), .call (.k (.c (.fn fn_kern_part_stopped [] []))) [(.t 5)], none⟩,
  ⟨(some 4), .mv (.t 9), none⟩]
def c_kern_Kernel_Stopped : IC := (.seq (.ops o_kern_Kernel_Stopped_0) (.seq (.ops o_kern_Kernel_Stopped_1) (.seq (.ops o_kern_Kernel_Stopped_2) .ret)))
def i_kern_Kernel_Stopped : IFn := ⟨10, c_kern_Kernel_Stopped, [(4, none)]⟩

-- F 15 rota/rotaref02.Great: bads 0, calls []
abbrev o_rotaref02_Great_0 : List IOper := [⟨(some 1), .box 28 (.t 0), none⟩,
  ⟨(some 2), .mv (.k (.c (.bool false))), none⟩]
abbrev o_rotaref02_Great_1 : List IOper := [⟨(some 6), .fa 1 (.t 1), none⟩,
  ⟨(some 7), .ld none (.t 6), none⟩,
  ⟨(some 8), .len false (.t 7), none⟩,
  ⟨(some 9), .fa 9 (.t 1), none⟩,
  ⟨(some 10), .ld none (.t 9), none⟩,
  ⟨(some 11), .len false (.t 10), none⟩,
  ⟨(some 12), .bin .add (.t 8) (.t 11), none⟩,
  ⟨(some 3), .mv (.t 12), none⟩]
abbrev o_rotaref02_Great_2 : List IOper := [⟨(some 4), .mv (.k (.c (.int .i64 0))), none⟩]
abbrev o_rotaref02_Great_3 : List IOper := [⟨(some 13), .mv (.t 4), none⟩,
  ⟨(some 14), .fa 9 (.t 1), none⟩,
  ⟨(some 15), .ld none (.t 14), none⟩,
  ⟨(some 16), .len false (.t 15), none⟩,
  ⟨(some 17), .bin .lss (.t 13) (.t 16), none⟩,
  ⟨(some 18), .mv (.t 17), none⟩,
  ⟨(some 19), .mv (.t 4), some (18, true)⟩,
  ⟨(some 20), .bin .lss (.t 19) (.k (.c (.int .i64 100))), some (18, true)⟩,
  ⟨(some 21), .pick (.t 18) (.t 20) (.k (.c (.bool false))), none⟩]
abbrev o_rotaref02_Great_4 : List IOper := [⟨(some 24), .mv (.t 3), none⟩,
  ⟨(some 25), .fa 9 (.t 1), none⟩,
  ⟨(some 26), .ld none (.t 25), none⟩,
  ⟨(some 27), .mv (.t 4), none⟩,
  ⟨(some 28), .iaS 1 (.t 26) (.t 27), none⟩,
  ⟨(some 29), .ld none (.t 28), none⟩,
  ⟨(some 30), .len false (.t 29), none⟩,
  ⟨(some 31), .bin .add (.t 24) (.t 30), none⟩,
  ⟨(some 3), .mv (.t 31), none⟩]
abbrev o_rotaref02_Great_5 : List IOper := [⟨(some 22), .mv (.t 4), none⟩,
  ⟨(some 23), .bin .add (.t 22) (.k (.c (.int .i64 1))), none⟩,
  ⟨(some 4), .mv (.t 23), none⟩]
def b_rotaref02_Great_6 : IC := (.seq (.seq (.ops o_rotaref02_Great_3) (.cond (.t 21) .skip (.exit 0))) (.seq (.block 1 (.ops o_rotaref02_Great_4)) (.ops o_rotaref02_Great_5)))
abbrev o_rotaref02_Great_7 : List IOper := [⟨(some 5), .mv (.k (.c (.int .i64 0))), none⟩]
abbrev o_rotaref02_Great_8 : List IOper := [⟨(some 32), .mv (.t 5), none⟩,
  ⟨(some 33), .fa 11 (.t 1), none⟩,
  ⟨(some 34), .ld none (.t 33), none⟩,
  ⟨(some 35), .len false (.t 34), none⟩,
  ⟨(some 36), .bin .lss (.t 32) (.t 35), none⟩,
  ⟨(some 37), .mv (.t 36), none⟩,
  ⟨(some 38), .mv (.t 5), some (37, true)⟩,
  ⟨(some 39), .bin .lss (.t 38) (.k (.c (.int .i64 100))), some (37, true)⟩,
  ⟨(some 40), .pick (.t 37) (.t 39) (.k (.c (.bool false))), none⟩]
abbrev o_rotaref02_Great_9 : List IOper := [⟨(some 43), .mv (.t 3), none⟩,
  ⟨(some 44), .fa 11 (.t 1), none⟩,
  ⟨(some 45), .ld none (.t 44), none⟩,
  ⟨(some 46), .mv (.t 5), none⟩,
  ⟨(some 47), .iaS 3 (.t 45) (.t 46), none⟩,
  ⟨(some 48), .fa 1 (.t 47), none⟩,
  ⟨(some 49), .ld none (.t 48), none⟩,
  ⟨(some 50), .len false (.t 49), none⟩,
  ⟨(some 51), .bin .add (.t 43) (.t 50), none⟩,
  ⟨(some 3), .mv (.t 51), none⟩]
abbrev o_rotaref02_Great_10 : List IOper := [⟨(some 41), .mv (.t 5), none⟩,
  ⟨(some 42), .bin .add (.t 41) (.k (.c (.int .i64 1))), none⟩,
  ⟨(some 5), .mv (.t 42), none⟩]
def b_rotaref02_Great_11 : IC := (.seq (.seq (.ops o_rotaref02_Great_8) (.cond (.t 40) .skip (.exit 2))) (.seq (.block 3 (.ops o_rotaref02_Great_9)) (.ops o_rotaref02_Great_10)))
abbrev o_rotaref02_Great_12 : List IOper := [⟨(some 52), .mv (.t 3), none⟩,
  ⟨(some 53), .bin .gtr (.t 52) (.k (.c (.int .i64 1000))), none⟩,
  ⟨(some 54), .mv (.t 53), none⟩,
  ⟨(some 55), .fa 8 (.t 1), some (54, false)⟩,
  ⟨(some 56), .ld none (.t 55), some (54, false)⟩,
  ⟨(some 57), .len false (.t 56), some (54, false)⟩,
  ⟨(some 58), .bin .gtr (.t 57) (.k (.c (.int .i64 100))), some (54, false)⟩,
  ⟨(some 59), .pick (.t 54) (.k (.c (.bool true))) (.t 58), none⟩,
  ⟨(some 60), .mv (.t 59), none⟩,
  ⟨(some 61), .fa 10 (.t 1), some (60, false)⟩,
  ⟨(some 62), .ld none (.t 61), some (60, false)⟩,
  ⟨(some 63), .len false (.t 62), some (60, false)⟩,
  ⟨(some 64), .bin .gtr (.t 63) (.k (.c (.int .i64 100))), some (60, false)⟩,
  ⟨(some 65), .pick (.t 60) (.k (.c (.bool true))) (.t 64), none⟩,
  ⟨(some 66), .mv (.t 65), none⟩,
  ⟨(some 67), .fa 11 (.t 1), some (66, false)⟩,
  ⟨(some 68), .ld none (.t 67), some (66, false)⟩,
  ⟨(some 69), .len false (.t 68), some (66, false)⟩,
  ⟨(some 70), .bin .gtr (.t 69) (.k (.c (.int .i64 100))), some (66, false)⟩,
  ⟨(some 71), .pick (.t 66) (.k (.c (.bool true))) (.t 70), none⟩,
  ⟨(some 2), .mv (.t 71), none⟩]
def c_rotaref02_Great : IC := (.seq (.ops o_rotaref02_Great_0) (.seq (.ops o_rotaref02_Great_1) (.seq (.seq (.ops o_rotaref02_Great_2) (.block 0 (.loop b_rotaref02_Great_6))) (.seq (.seq (.ops o_rotaref02_Great_7) (.block 2 (.loop b_rotaref02_Great_11))) (.seq (.ops o_rotaref02_Great_12) .ret)))))
def i_rotaref02_Great : IFn := ⟨72, c_rotaref02_Great, [(2, none)]⟩

-- F 16 rota/rotaref02.Twin: bads 0, calls []
abbrev o_rotaref02_Twin_0 : List IOper := [⟨(some 1), .box 28 (.t 0), none⟩,
  ⟨(some 2), .new 28 (.agg ([(.int .i64 0)] ++ [(.sl none 0 0 false)] ++ List.replicate 6 (.int .i64 0) ++ List.replicate 4 (.sl none 0 0 false))), none⟩]
abbrev o_rotaref02_Twin_1 : List IOper := [⟨(some 8), .ld (some 12) (.t 1), none⟩,
  ⟨(some 3), .new 28 (.agg ([(.int .i64 0)] ++ [(.sl none 0 0 false)] ++ List.replicate 6 (.int .i64 0) ++ List.replicate 4 (.sl none 0 0 false))), none⟩,
  ⟨none, .st 12 (.t 3) (.t 8), none⟩]
abbrev o_rotaref02_Twin_2 : List IOper := [⟨(some 9), .bsl 3 0 [] [], none⟩,
  ⟨(some 10), .fa 1 (.t 1), none⟩,
  ⟨(some 11), .ld none (.t 10), none⟩,
  ⟨(some 12), .app 3 1 8 (.t 9) (.t 11), none⟩,
  ⟨(some 13), .fa 1 (.t 3), none⟩,
  ⟨none, .st 1 (.t 13) (.t 12), none⟩]
abbrev o_rotaref02_Twin_3 : List IOper := [⟨(some 14), .bsl 38 0 [] [], none⟩,
  ⟨(some 15), .fa 8 (.t 1), none⟩,
  ⟨(some 16), .ld none (.t 15), none⟩,
  ⟨(some 17), .app 38 3 24 (.t 14) (.t 16), none⟩,
  ⟨(some 18), .fa 8 (.t 3), none⟩,
  ⟨none, .st 1 (.t 18) (.t 17), none⟩]
abbrev o_rotaref02_Twin_4 : List IOper := [⟨(some 19), .bsl 67 0 [] [], none⟩,
  ⟨(some 20), .fa 10 (.t 1), none⟩,
  ⟨(some 21), .ld none (.t 20), none⟩,
  ⟨(some 22), .app 67 6 48 (.t 19) (.t 21), none⟩,
  ⟨(some 23), .fa 10 (.t 3), none⟩,
  ⟨none, .st 1 (.t 23) (.t 22), none⟩]
abbrev o_rotaref02_Twin_5 : List IOper := [⟨(some 24), .fa 9 (.t 3), none⟩,
  ⟨none, .st 1 (.t 24) (.k (.c (.sl none 0 0 false))), none⟩]
abbrev o_rotaref02_Twin_6 : List IOper := [⟨(some 4), .mv (.k (.c (.int .i64 0))), none⟩]
abbrev o_rotaref02_Twin_7 : List IOper := [⟨(some 25), .mv (.t 4), none⟩,
  ⟨(some 26), .fa 9 (.t 1), none⟩,
  ⟨(some 27), .ld none (.t 26), none⟩,
  ⟨(some 28), .len false (.t 27), none⟩,
  ⟨(some 29), .bin .lss (.t 25) (.t 28), none⟩]
abbrev o_rotaref02_Twin_8 : List IOper := [⟨(some 32), .bsl 3 0 [] [], none⟩,
  ⟨(some 33), .fa 9 (.t 1), none⟩,
  ⟨(some 34), .ld none (.t 33), none⟩,
  ⟨(some 35), .mv (.t 4), none⟩,
  ⟨(some 36), .iaS 1 (.t 34) (.t 35), none⟩,
  ⟨(some 37), .ld none (.t 36), none⟩,
  ⟨(some 38), .app 3 1 8 (.t 32) (.t 37), none⟩,
  ⟨(some 5), .mv (.t 38), none⟩]
abbrev o_rotaref02_Twin_9 : List IOper := [⟨(some 39), .fa 9 (.t 3), none⟩,
  ⟨(some 40), .ld none (.t 39), none⟩,
  ⟨(some 41), .mv (.t 5), none⟩,
  ⟨(some 42), .bsl 22 1 [(.sl none 0 0 false)] [(0, 1, (.t 41))], none⟩,
  ⟨(some 43), .app 22 1 24 (.t 40) (.t 42), none⟩,
  ⟨(some 44), .fa 9 (.t 3), none⟩,
  ⟨none, .st 1 (.t 44) (.t 43), none⟩]
abbrev o_rotaref02_Twin_10 : List IOper := [⟨(some 30), .mv (.t 4), none⟩,
  ⟨(some 31), .bin .add (.t 30) (.k (.c (.int .i64 1))), none⟩,
  ⟨(some 4), .mv (.t 31), none⟩]
def b_rotaref02_Twin_11 : IC := (.seq (.seq (.ops o_rotaref02_Twin_7) (.cond (.t 29) .skip (.exit 0))) (.seq (.block 1 (.seq (.ops o_rotaref02_Twin_8) (.ops o_rotaref02_Twin_9))) (.ops o_rotaref02_Twin_10)))
abbrev o_rotaref02_Twin_12 : List IOper := [⟨(some 45), .fa 11 (.t 3), none⟩,
  ⟨none, .st 1 (.t 45) (.k (.c (.sl none 0 0 false))), none⟩]
abbrev o_rotaref02_Twin_13 : List IOper := [⟨(some 6), .mv (.k (.c (.int .i64 0))), none⟩]
abbrev o_rotaref02_Twin_14 : List IOper := [⟨(some 46), .mv (.t 6), none⟩,
  ⟨(some 47), .fa 11 (.t 1), none⟩,
  ⟨(some 48), .ld none (.t 47), none⟩,
  ⟨(some 49), .len false (.t 48), none⟩,
  ⟨(some 50), .bin .lss (.t 46) (.t 49), none⟩]
abbrev o_rotaref02_Twin_15 : List IOper := [⟨(some 53), .fa 11 (.t 1), none⟩,
  ⟨(some 54), .ld none (.t 53), none⟩,
  ⟨(some 55), .mv (.t 6), none⟩,
  ⟨(some 56), .iaS 3 (.t 54) (.t 55), none⟩,
  ⟨(some 57), .ld (some 3) (.t 56), none⟩,
  ⟨(some 7), .new 97 (.agg [(.int .i64 0), (.sl none 0 0 false), (.int .i64 0)]), none⟩,
  ⟨none, .st 3 (.t 7) (.t 57), none⟩]
abbrev o_rotaref02_Twin_16 : List IOper := [⟨(some 58), .bsl 3 0 [] [], none⟩,
  ⟨(some 59), .fa 11 (.t 1), none⟩,
  ⟨(some 60), .ld none (.t 59), none⟩,
  ⟨(some 61), .mv (.t 6), none⟩,
  ⟨(some 62), .iaS 3 (.t 60) (.t 61), none⟩,
  ⟨(some 63), .fa 1 (.t 62), none⟩,
  ⟨(some 64), .ld none (.t 63), none⟩,
  ⟨(some 65), .app 3 1 8 (.t 58) (.t 64), none⟩,
  ⟨(some 66), .fa 1 (.t 7), none⟩,
  ⟨none, .st 1 (.t 66) (.t 65), none⟩]
abbrev o_rotaref02_Twin_17 : List IOper := [⟨(some 67), .fa 11 (.t 3), none⟩,
  ⟨(some 68), .ld none (.t 67), none⟩,
  ⟨(some 69), .ld (some 3) (.t 7), none⟩,
  ⟨(some 70), .bsl 97 1 [(.int .i64 0), (.sl none 0 0 false), (.int .i64 0)] [(0, 3, (.t 69))], none⟩,
  ⟨(some 71), .app 97 3 40 (.t 68) (.t 70), none⟩,
  ⟨(some 72), .fa 11 (.t 3), none⟩,
  ⟨none, .st 1 (.t 72) (.t 71), none⟩]
abbrev o_rotaref02_Twin_18 : List IOper := [⟨(some 51), .mv (.t 6), none⟩,
  ⟨(some 52), .bin .add (.t 51) (.k (.c (.int .i64 1))), none⟩,
  ⟨(some 6), .mv (.t 52), none⟩]
def b_rotaref02_Twin_19 : IC := (.seq (.seq (.ops o_rotaref02_Twin_14) (.cond (.t 50) .skip (.exit 2))) (.seq (.block 3 (.seq (.ops o_rotaref02_Twin_15) (.seq (.ops o_rotaref02_Twin_16) (.ops o_rotaref02_Twin_17)))) (.ops o_rotaref02_Twin_18)))
abbrev o_rotaref02_Twin_20 : List IOper := [⟨(some 73), .ld (some 12) (.t 3), none⟩,
  ⟨none, .st 12 (.t 2) (.t 73), none⟩]
def c_rotaref02_Twin : IC := (.seq (.ops o_rotaref02_Twin_0) (.seq (.ops o_rotaref02_Twin_1) (.seq (.ops o_rotaref02_Twin_2) (.seq (.ops o_rotaref02_Twin_3) (.seq (.ops o_rotaref02_Twin_4) (.seq (.ops o_rotaref02_Twin_5) (.seq (.seq (.ops o_rotaref02_Twin_6) (.block 0 (.loop b_rotaref02_Twin_11))) (.seq (.ops o_rotaref02_Twin_12) (.seq (.seq (.ops o_rotaref02_Twin_13) (.block 2 (.loop b_rotaref02_Twin_19))) (.seq (.ops o_rotaref02_Twin_20) .ret))))))))))
def i_rotaref02_Twin : IFn := ⟨74, c_rotaref02_Twin, [(2, (some (some 12)))]⟩

-- F 17 rota/rotaref05.New: bads 0, calls [35, 16, 36]
abbrev o_rotaref05_New_0 : List IOper := [⟨(some 2), .box 28 (.t 0), none⟩,
  ⟨(some 4), .new 62 (.agg ([(.int .i64 0)] ++ [(.sl none 0 0 false)] ++ List.replicate 6 (.int .i64 0) ++ List.replicate 4 (.sl none 0 0 false) ++ [(.int .i64 0)] ++ List.replicate 256 (.int .u8 0) ++ List.replicate 2 (.sl none 0 0 false))), none⟩,
  ⟨(some 5), .mv (.k (.c (.int .i64 0))), none⟩]
abbrev o_rotaref05_New_1 : List IOper := [⟨(some 8), .ld (some 12) (.t 2), none⟩,
  ⟨(some 9), .call (.k (.c (.fn fn_rotaref02_Check [] []))) [(.t 8)], none⟩,
  ⟨(some 6), .mv (.t 9), none⟩]
abbrev o_rotaref05_New_2 : List IOper := [⟨(some 10), .mv (.t 6), none⟩,
  ⟨(some 11), .bin .neq (.t 10) (.k (.c (.int .i64 0))), none⟩]
abbrev o_rotaref05_New_3 : List IOper := [⟨(some 12), .build ([(.int .i64 0)] ++ [(.sl none 0 0 false)] ++ List.replicate 6 (.int .i64 0) ++ List.replicate 4 (.sl none 0 0 false) ++ [(.int .i64 0)] ++ List.replicate 256 (.int .u8 0) ++ List.replicate 2 (.sl none 0 0 false)) [], none⟩,
  ⟨(some 13), .mv (.t 6), none⟩,
  ⟨none, .st 271 (.t 4) (.t 12), none⟩,
  ⟨(some 5), .mv (.t 13), none⟩]
abbrev o_rotaref05_New_4 : List IOper := [⟨(some 14), .mv (.t 1), none⟩,
  ⟨(some 15), .bin .lss (.t 14) (.k (.c (.int .i64 0))), none⟩,
  ⟨(some 16), .mv (.t 15), none⟩,
  ⟨(some 17), .mv (.t 1), some (16, false)⟩,
  ⟨(some 18), .fa 0 (.t 2), some (16, false)⟩,
  ⟨(some 19), .ld none (.t 18), some (16, false)⟩,
  ⟨(some 20), .bin .geq (.t 17) (.t 19), some (16, false)⟩,
  ⟨(some 21), .pick (.t 16) (.k (.c (.bool true))) (.t 20), none⟩]
abbrev o_rotaref05_New_5 : List IOper := [⟨(some 22), .build ([(.int .i64 0)] ++ [(.sl none 0 0 false)] ++ List.replicate 6 (.int .i64 0) ++ List.replicate 4 (.sl none 0 0 false) ++ [(.int .i64 0)] ++ List.replicate 256 (.int .u8 0) ++ List.replicate 2 (.sl none 0 0 false)) [], none⟩,
  ⟨none, .st 271 (.t 4) (.t 22), none⟩,
  ⟨(some 5), .mv (.k (.c (.int .i64 2))), none⟩]
abbrev o_rotaref05_New_6 : List IOper := [⟨(some 23), .ld (some 12) (.t 2), none⟩,
  ⟨(some 24), .call (.k (.c (.fn fn_rotaref02_Twin [] []))) [(.t 23)], none⟩,
  ⟨(some 25), .mv (.t 1), none⟩,
  ⟨(some 26), .build ([(.int .i64 0)] ++ [(.sl none 0 0 false)] ++ List.replicate 6 (.int .i64 0) ++ List.replicate 4 (.sl none 0 0 false) ++ [(.int .i64 0)] ++ List.replicate 256 (.int .u8 0) ++ List.replicate 2 (.sl none 0 0 false)) [(0, 12, (.t 24)), (12, 1, (.t 25))], none⟩,
  ⟨(some 7), .new 62 (.agg ([(.int .i64 0)] ++ [(.sl none 0 0 false)] ++ List.replicate 6 (.int .i64 0) ++ List.replicate 4 (.sl none 0 0 false) ++ [(.int .i64 0)] ++ List.replicate 256 (.int .u8 0) ++ List.replicate 2 (.sl none 0 0 false))), none⟩,
  ⟨none, .st 271 (.t 7) (.t 26), none⟩]
abbrev o_rotaref05_New_7 : List IOper := [⟨(some 27), .call (.k (.c (.fn fn_rotaref05_Kernel_Restart [] []))) [(.t 7)], none⟩]
abbrev o_rotaref05_New_8 : List IOper := [⟨(some 28), .ld (some 271) (.t 7), none⟩,
  ⟨none, .st 271 (.t 4) (.t 28), none⟩,
  ⟨(some 5), .mv (.k (.c (.int .i64 0))), none⟩]
def c_rotaref05_New : IC := (.seq (.ops o_rotaref05_New_0) (.seq (.ops o_rotaref05_New_1) (.seq (.seq (.ops o_rotaref05_New_2) (.cond (.t 11) (.seq (.ops o_rotaref05_New_3) .ret) .skip)) (.seq (.seq (.ops o_rotaref05_New_4) (.cond (.t 21) (.seq (.ops o_rotaref05_New_5) .ret) .skip)) (.seq (.ops o_rotaref05_New_6) (.seq (.ops o_rotaref05_New_7) (.seq (.ops o_rotaref05_New_8) .ret)))))))
def i_rotaref05_New : IFn := ⟨29, c_rotaref05_New, [(4, (some (some 271))), (5, none)]⟩

-- F 18 rota/rotaref02.Same: bads 0, calls [37, 37, 37]
abbrev o_rotaref02_Same_0 : List IOper := [⟨(some 2), .box 28 (.t 0), none⟩,
  ⟨(some 3), .box 28 (.t 1), none⟩,
  ⟨(some 4), .mv (.k (.c (.bool false))), none⟩]
abbrev o_rotaref02_Same_1 : List IOper := [⟨(some 9), .fa 0 (.t 2), none⟩,
  ⟨(some 10), .ld none (.t 9), none⟩,
  ⟨(some 11), .fa 0 (.t 3), none⟩,
  ⟨(some 12), .ld none (.t 11), none⟩,
  ⟨(some 13), .bin .neq (.t 10) (.t 12), none⟩,
  ⟨(some 14), .mv (.t 13), none⟩,
  ⟨(some 15), .fa 2 (.t 2), some (14, false)⟩,
  ⟨(some 16), .ld none (.t 15), some (14, false)⟩,
  ⟨(some 17), .fa 2 (.t 3), some (14, false)⟩,
  ⟨(some 18), .ld none (.t 17), some (14, false)⟩,
  ⟨(some 19), .bin .neq (.t 16) (.t 18), some (14, false)⟩,
  ⟨(some 20), .pick (.t 14) (.k (.c (.bool true))) (.t 19), none⟩,
  ⟨(some 21), .mv (.t 20), none⟩,
  ⟨(some 22), .fa 3 (.t 2), some (21, false)⟩,
  ⟨(some 23), .ld none (.t 22), some (21, false)⟩,
  ⟨(some 24), .fa 3 (.t 3), some (21, false)⟩,
  ⟨(some 25), .ld none (.t 24), some (21, false)⟩,
  ⟨(some 26), .bin .neq (.t 23) (.t 25), some (21, false)⟩,
  ⟨(some 27), .pick (.t 21) (.k (.c (.bool true))) (.t 26), none⟩,
  ⟨(some 28), .mv (.t 27), none⟩,
  ⟨(some 29), .fa 4 (.t 2), some (28, false)⟩,
  ⟨(some 30), .ld none (.t 29), some (28, false)⟩,
  ⟨(some 31), .fa 4 (.t 3), some (28, false)⟩,
  ⟨(some 32), .ld none (.t 31), some (28, false)⟩,
  ⟨(some 33), .bin .neq (.t 30) (.t 32), some (28, false)⟩,
  ⟨(some 34), .pick (.t 28) (.k (.c (.bool true))) (.t 33), none⟩,
  ⟨(some 35), .mv (.t 34), none⟩,
  ⟨(some 36), .fa 5 (.t 2), some (35, false)⟩,
  ⟨(some 37), .ld none (.t 36), some (35, false)⟩,
  ⟨(some 38), .fa 5 (.t 3), some (35, false)⟩,
  ⟨(some 39), .ld none (.t 38), some (35, false)⟩,
  ⟨(some 40), .bin .neq (.t 37) (.t 39), some (35, false)⟩,
  ⟨(some 41), .pick (.t 35) (.k (.c (.bool true))) (.t 40), none⟩,
  ⟨(some 42), .mv (.t 41), none⟩,
  ⟨(some 43), .fa 6 (.t 2), some (42, false)⟩,
  ⟨(some 44), .ld none (.t 43), some (42, false)⟩,
  ⟨(some 45), .fa 6 (.t 3), some (42, false)⟩,
  ⟨(some 46), .ld none (.t 45), some (42, false)⟩,
  ⟨(some 47), .bin .neq (.t 44) (.t 46), some (42, false)⟩,
  ⟨(some 48), .pick (.t 42) (.k (.c (.bool true))) (.t 47), none⟩,
  ⟨(some 49), .mv (.t 48), none⟩,
  ⟨(some 50), .fa 7 (.t 2), some (49, false)⟩,
  ⟨(some 51), .ld none (.t 50), some (49, false)⟩,
  ⟨(some 52), .fa 7 (.t 3), some (49, false)⟩,
  ⟨(some 53), .ld none (.t 52), some (49, false)⟩,
  ⟨(some 54), .bin .neq (.t 51) (.t 53), some (49, false)⟩,
  ⟨(some 55), .pick (.t 49) (.k (.c (.bool true))) (.t 54), none⟩,
  ⟨(some 56), .mv (.t 55), none⟩,
  ⟨(some 57), .fa 1 (.t 2), some (56, false)⟩,
  ⟨(some 58), .ld none (.t 57), some (56, false)⟩,
  ⟨(some 59), .fa 1 (.t 3), some (56, false)⟩,
  ⟨(some 60), .ld none (.t 59), some (56, false)⟩,
  ⟨(some 61), .call (.k (.c (.fn fn_rotaref02_ints [] []))) [(.t 58), (.t 60)], some (56, false)⟩,
  ⟨(some 62), .un .not (.t 61), some (56, false)⟩,
  ⟨(some 63), .pick (.t 56) (.k (.c (.bool true))) (.t 62), none⟩]
abbrev o_rotaref02_Same_2 : List IOper := [⟨(some 4), .mv (.k (.c (.bool false))), none⟩]
abbrev o_rotaref02_Same_3 : List IOper := [⟨(some 64), .fa 8 (.t 2), none⟩,
  ⟨(some 65), .ld none (.t 64), none⟩,
  ⟨(some 66), .len false (.t 65), none⟩,
  ⟨(some 67), .fa 8 (.t 3), none⟩,
  ⟨(some 68), .ld none (.t 67), none⟩,
  ⟨(some 69), .len false (.t 68), none⟩,
  ⟨(some 70), .bin .neq (.t 66) (.t 69), none⟩,
  ⟨(some 71), .mv (.t 70), none⟩,
  ⟨(some 72), .fa 9 (.t 2), some (71, false)⟩,
  ⟨(some 73), .ld none (.t 72), some (71, false)⟩,
  ⟨(some 74), .len false (.t 73), some (71, false)⟩,
  ⟨(some 75), .fa 9 (.t 3), some (71, false)⟩,
  ⟨(some 76), .ld none (.t 75), some (71, false)⟩,
  ⟨(some 77), .len false (.t 76), some (71, false)⟩,
  ⟨(some 78), .bin .neq (.t 74) (.t 77), some (71, false)⟩,
  ⟨(some 79), .pick (.t 71) (.k (.c (.bool true))) (.t 78), none⟩,
  ⟨(some 80), .mv (.t 79), none⟩,
  ⟨(some 81), .fa 10 (.t 2), some (80, false)⟩,
  ⟨(some 82), .ld none (.t 81), some (80, false)⟩,
  ⟨(some 83), .len false (.t 82), some (80, false)⟩,
  ⟨(some 84), .fa 10 (.t 3), some (80, false)⟩,
  ⟨(some 85), .ld none (.t 84), some (80, false)⟩,
  ⟨(some 86), .len false (.t 85), some (80, false)⟩,
  ⟨(some 87), .bin .neq (.t 83) (.t 86), some (80, false)⟩,
  ⟨(some 88), .pick (.t 80) (.k (.c (.bool true))) (.t 87), none⟩,
  ⟨(some 89), .mv (.t 88), none⟩,
  ⟨(some 90), .fa 11 (.t 2), some (89, false)⟩,
  ⟨(some 91), .ld none (.t 90), some (89, false)⟩,
  ⟨(some 92), .len false (.t 91), some (89, false)⟩,
  ⟨(some 93), .fa 11 (.t 3), some (89, false)⟩,
  ⟨(some 94), .ld none (.t 93), some (89, false)⟩,
  ⟨(some 95), .len false (.t 94), some (89, false)⟩,
  ⟨(some 96), .bin .neq (.t 92) (.t 95), some (89, false)⟩,
  ⟨(some 97), .pick (.t 89) (.k (.c (.bool true))) (.t 96), none⟩]
abbrev o_rotaref02_Same_4 : List IOper := [⟨(some 4), .mv (.k (.c (.bool false))), none⟩]
abbrev o_rotaref02_Same_5 : List IOper := [⟨(some 5), .mv (.k (.c (.int .i64 0))), none⟩]
abbrev o_rotaref02_Same_6 : List IOper := [⟨(some 98), .mv (.t 5), none⟩,
  ⟨(some 99), .fa 8 (.t 2), none⟩,
  ⟨(some 100), .ld none (.t 99), none⟩,
  ⟨(some 101), .len false (.t 100), none⟩,
  ⟨(some 102), .bin .lss (.t 98) (.t 101), none⟩]
abbrev o_rotaref02_Same_7 : List IOper := [⟨(some 105), .fa 8 (.t 2), none⟩,
  ⟨(some 106), .ld none (.t 105), none⟩,
  ⟨(some 107), .mv (.t 5), none⟩,
  ⟨(some 108), .iaS 3 (.t 106) (.t 107), none⟩,
  ⟨(some 109), .ld (some 3) (.t 108), none⟩,
  ⟨(some 110), .fa 8 (.t 3), none⟩,
  ⟨(some 111), .ld none (.t 110), none⟩,
  ⟨(some 112), .mv (.t 5), none⟩,
  ⟨(some 113), .iaS 3 (.t 111) (.t 112), none⟩,
  ⟨(some 114), .ld (some 3) (.t 113), none⟩,
  ⟨(some 115), .eqagg [.int, .int, .int] true (.t 109) (.t 114), none⟩]
abbrev o_rotaref02_Same_8 : List IOper := [⟨(some 4), .mv (.k (.c (.bool false))), none⟩]
abbrev o_rotaref02_Same_9 : List IOper := [⟨(some 103), .mv (.t 5), none⟩,
  ⟨(some 104), .bin .add (.t 103) (.k (.c (.int .i64 1))), none⟩,
  ⟨(some 5), .mv (.t 104), none⟩]
def b_rotaref02_Same_10 : IC := (.seq (.seq (.ops o_rotaref02_Same_6) (.cond (.t 102) .skip (.exit 0))) (.seq (.block 1 (.seq (.ops o_rotaref02_Same_7) (.cond (.t 115) (.seq (.ops o_rotaref02_Same_8) .ret) .skip))) (.ops o_rotaref02_Same_9)))
abbrev o_rotaref02_Same_11 : List IOper := [⟨(some 6), .mv (.k (.c (.int .i64 0))), none⟩]
abbrev o_rotaref02_Same_12 : List IOper := [⟨(some 116), .mv (.t 6), none⟩,
  ⟨(some 117), .fa 9 (.t 2), none⟩,
  ⟨(some 118), .ld none (.t 117), none⟩,
  ⟨(some 119), .len false (.t 118), none⟩,
  ⟨(some 120), .bin .lss (.t 116) (.t 119), none⟩]
abbrev o_rotaref02_Same_13 : List IOper := [⟨(some 123), .fa 9 (.t 2), none⟩,
  ⟨(some 124), .ld none (.t 123), none⟩,
  ⟨(some 125), .mv (.t 6), none⟩,
  ⟨(some 126), .iaS 1 (.t 124) (.t 125), none⟩,
  ⟨(some 127), .ld none (.t 126), none⟩,
  ⟨(some 128), .fa 9 (.t 3), none⟩,
  ⟨(some 129), .ld none (.t 128), none⟩,
  ⟨(some 130), .mv (.t 6), none⟩,
  ⟨(some 131), .iaS 1 (.t 129) (.t 130), none⟩,
  ⟨(some 132), .ld none (.t 131), none⟩,
  ⟨(some 133), .call (.k (.c (.fn fn_rotaref02_ints [] []))) [(.t 127), (.t 132)], none⟩,
  ⟨(some 134), .un .not (.t 133), none⟩]
abbrev o_rotaref02_Same_14 : List IOper := [⟨(some 4), .mv (.k (.c (.bool false))), none⟩]
abbrev o_rotaref02_Same_15 : List IOper := [⟨(some 121), .mv (.t 6), none⟩,
  ⟨(some 122), .bin .add (.t 121) (.k (.c (.int .i64 1))), none⟩,
  ⟨(some 6), .mv (.t 122), none⟩]
def b_rotaref02_Same_16 : IC := (.seq (.seq (.ops o_rotaref02_Same_12) (.cond (.t 120) .skip (.exit 2))) (.seq (.block 3 (.seq (.ops o_rotaref02_Same_13) (.cond (.t 134) (.seq (.ops o_rotaref02_Same_14) .ret) .skip))) (.ops o_rotaref02_Same_15)))
abbrev o_rotaref02_Same_17 : List IOper := [⟨(some 7), .mv (.k (.c (.int .i64 0))), none⟩]
abbrev o_rotaref02_Same_18 : List IOper := [⟨(some 135), .mv (.t 7), none⟩,
  ⟨(some 136), .fa 10 (.t 2), none⟩,
  ⟨(some 137), .ld none (.t 136), none⟩,
  ⟨(some 138), .len false (.t 137), none⟩,
  ⟨(some 139), .bin .lss (.t 135) (.t 138), none⟩]
abbrev o_rotaref02_Same_19 : List IOper := [⟨(some 142), .fa 10 (.t 2), none⟩,
  ⟨(some 143), .ld none (.t 142), none⟩,
  ⟨(some 144), .mv (.t 7), none⟩,
  ⟨(some 145), .iaS 6 (.t 143) (.t 144), none⟩,
  ⟨(some 146), .ld (some 6) (.t 145), none⟩,
  ⟨(some 147), .fa 10 (.t 3), none⟩,
  ⟨(some 148), .ld none (.t 147), none⟩,
  ⟨(some 149), .mv (.t 7), none⟩,
  ⟨(some 150), .iaS 6 (.t 148) (.t 149), none⟩,
  ⟨(some 151), .ld (some 6) (.t 150), none⟩,
  ⟨(some 152), .eqagg [.int, .int, .int, .int, .int, .int] true (.t 146) (.t 151), none⟩]
abbrev o_rotaref02_Same_20 : List IOper := [⟨(some 4), .mv (.k (.c (.bool false))), none⟩]
abbrev o_rotaref02_Same_21 : List IOper := [⟨(some 140), .mv (.t 7), none⟩,
  ⟨(some 141), .bin .add (.t 140) (.k (.c (.int .i64 1))), none⟩,
  ⟨(some 7), .mv (.t 141), none⟩]
def b_rotaref02_Same_22 : IC := (.seq (.seq (.ops o_rotaref02_Same_18) (.cond (.t 139) .skip (.exit 4))) (.seq (.block 5 (.seq (.ops o_rotaref02_Same_19) (.cond (.t 152) (.seq (.ops o_rotaref02_Same_20) .ret) .skip))) (.ops o_rotaref02_Same_21)))
abbrev o_rotaref02_Same_23 : List IOper := [⟨(some 8), .mv (.k (.c (.int .i64 0))), none⟩]
abbrev o_rotaref02_Same_24 : List IOper := [⟨(some 153), .mv (.t 8), none⟩,
  ⟨(some 154), .fa 11 (.t 2), none⟩,
  ⟨(some 155), .ld none (.t 154), none⟩,
  ⟨(some 156), .len false (.t 155), none⟩,
  ⟨(some 157), .bin .lss (.t 153) (.t 156), none⟩]
abbrev o_rotaref02_Same_25 : List IOper := [⟨(some 160), .fa 11 (.t 2), none⟩,
  ⟨(some 161), .ld none (.t 160), none⟩,
  ⟨(some 162), .mv (.t 8), none⟩,
  ⟨(some 163), .iaS 3 (.t 161) (.t 162), none⟩,
  ⟨(some 164), .fa 0 (.t 163), none⟩,
  ⟨(some 165), .ld none (.t 164), none⟩,
  ⟨(some 166), .fa 11 (.t 3), none⟩,
  ⟨(some 167), .ld none (.t 166), none⟩,
  ⟨(some 168), .mv (.t 8), none⟩,
  ⟨(some 169), .iaS 3 (.t 167) (.t 168), none⟩,
  ⟨(some 170), .fa 0 (.t 169), none⟩,
  ⟨(some 171), .ld none (.t 170), none⟩,
  ⟨(some 172), .bin .neq (.t 165) (.t 171), none⟩,
  ⟨(some 173), .mv (.t 172), none⟩,
  ⟨(some 174), .fa 11 (.t 2), some (173, false)⟩,
  ⟨(some 175), .ld none (.t 174), some (173, false)⟩,
  ⟨(some 176), .mv (.t 8), some (173, false)⟩,
  ⟨(some 177), .iaS 3 (.t 175) (.t 176), some (173, false)⟩,
  ⟨(some 178), .fa 2 (.t 177), some (173, false)⟩,
  ⟨(some 179), .ld none (.t 178), some (173, false)⟩,
  ⟨(some 180), .fa 11 (.t 3), some (173, false)⟩,
  ⟨(some 181), .ld none (.t 180), some (173, false)⟩,
  ⟨(some 182), .mv (.t 8), some (173, false)⟩,
  ⟨(some 183), .iaS 3 (.t 181) (.t 182), some (173, false)⟩,
  ⟨(some 184), .fa 2 (.t 183), some (173, false)⟩,
  ⟨(some 185), .ld none (.t 184), some (173, false)⟩,
  ⟨(some 186), .bin .neq (.t 179) (.t 185), some (173, false)⟩,
  ⟨(some 187), .pick (.t 173) (.k (.c (.bool true))) (.t 186), none⟩,
  ⟨(some 188), .mv (.t 187), none⟩,
  ⟨(some 189), .fa 11 (.t 2), some (188, false)⟩,
  ⟨(some 190), .ld none (.t 189), some (188, false)⟩,
  ⟨(some 191), .mv (.t 8), some (188, false)⟩,
  ⟨(some 192), .iaS 3 (.t 190) (.t 191), some (188, false)⟩,
  ⟨(some 193), .fa 1 (.t 192), some (188, false)⟩,
  ⟨(some 194), .ld none (.t 193), some (188, false)⟩,
  ⟨(some 195), .fa 11 (.t 3), some (188, false)⟩,
  ⟨(some 196), .ld none (.t 195), some (188, false)⟩,
  ⟨(some 197), .mv (.t 8), some (188, false)⟩,
  ⟨(some 198), .iaS 3 (.t 196) (.t 197), some (188, false)⟩,
  ⟨(some 199), .fa 1 (.t 198), some (188, false)⟩,
  ⟨(some 200), .ld none (.t 199), some (188, false)⟩,
  ⟨(some 201), .call (.k (.c (.fn fn_rotaref02_ints [] []))) [(.t 194), (.t 200)], some (188, false)⟩,
  ⟨(some 202), .un .not (.t 201), some (188, false)⟩,
  ⟨(some 203), .pick (.t 188) (.k (.c (.bool true))) (.t 202), none⟩]
abbrev o_rotaref02_Same_26 : List IOper := [⟨(some 4), .mv (.k (.c (.bool false))), none⟩]
abbrev o_rotaref02_Same_27 : List IOper := [⟨(some 158), .mv (.t 8), none⟩,
  ⟨(some 159), .bin .add (.t 158) (.k (.c (.int .i64 1))), none⟩,
  ⟨(some 8), .mv (.t 159), none⟩]
def b_rotaref02_Same_28 : IC := (.seq (.seq (.ops o_rotaref02_Same_24) (.cond (.t 157) .skip (.exit 6))) (.seq (.block 7 (.seq (.ops o_rotaref02_Same_25) (.cond (.t 203) (.seq (.ops o_rotaref02_Same_26) .ret) .skip))) (.ops o_rotaref02_Same_27)))
abbrev o_rotaref02_Same_29 : List IOper := [⟨(some 4), .mv (.k (.c (.bool true))), none⟩]
def c_rotaref02_Same : IC := (.seq (.ops o_rotaref02_Same_0) (.seq (.seq (.ops o_rotaref02_Same_1) (.cond (.t 63) (.seq (.ops o_rotaref02_Same_2) .ret) .skip)) (.seq (.seq (.ops o_rotaref02_Same_3) (.cond (.t 97) (.seq (.ops o_rotaref02_Same_4) .ret) .skip)) (.seq (.seq (.ops o_rotaref02_Same_5) (.block 0 (.loop b_rotaref02_Same_10))) (.seq (.seq (.ops o_rotaref02_Same_11) (.block 2 (.loop b_rotaref02_Same_16))) (.seq (.seq (.ops o_rotaref02_Same_17) (.block 4 (.loop b_rotaref02_Same_22))) (.seq (.seq (.ops o_rotaref02_Same_23) (.block 6 (.loop b_rotaref02_Same_28))) (.seq (.ops o_rotaref02_Same_29) .ret))))))))
def i_rotaref02_Same : IFn := ⟨204, c_rotaref02_Same, [(4, none)]⟩

-- F 19 rota/rotalaw05.do: bads 0, calls [38, 11, 39, 40, 41, 22, 42, 43, 23, 44, 36, 10, 13, 45, 14, 45, 12, 46, 24, 47]
abbrev o_rotalaw05_do_0 : List IOper := [⟨(some 5), .box 42 (.t 2), none⟩,
  ⟨(some 6), .mv (.k (.c (.bool false))), none⟩]
abbrev o_rotalaw05_do_1 : List IOper := [⟨(some 26), .fa 0 (.t 5), none⟩,
  ⟨(some 27), .ld none (.t 26), none⟩]
abbrev o_rotalaw05_do_2 : List IOper := [⟨(some 29), .bin .eql (.t 27) (.k (.c (.int .i64 0))), none⟩,
  ⟨(some 28), .mv (.t 29), none⟩]
abbrev o_rotalaw05_do_3 : List IOper := [⟨(some 30), .fa 4 (.t 5), none⟩,
  ⟨(some 31), .ld none (.t 30), none⟩,
  ⟨(some 32), .call (.k (.c (.fn fn_rotalaw05_twin [] []))) [(.t 31)], none⟩,
  ⟨(some 7), .mv (.t 32), none⟩]
abbrev o_rotalaw05_do_4 : List IOper := [⟨(some 34), .mv (.t 0), none⟩,
  ⟨(some 35), .fa 1 (.t 5), none⟩,
  ⟨(some 36), .ld none (.t 35), none⟩,
  ⟨(some 37), .fa 2 (.t 5), none⟩,
  ⟨(some 38), .ld none (.t 37), none⟩,
  ⟨(some 39), .mv (.t 7), none⟩,
  ⟨(some 40), .fa 4 (.t 5), none⟩,
  ⟨(some 41), .ld none (.t 40), none⟩,
  ⟨(some 42), .len false (.t 41), none⟩,
  ⟨(some 43), .slS 5 (.t 39) none (some (.t 42)) none, none⟩,
  ⟨(some 44), .call (.k (.c (.fn fn_kern_Kernel_Run [] []))) [(.t 34), (.t 36), (.t 38), (.t 43)], none⟩,
  ⟨(some 33), .mv (.t 44), none⟩,
  ⟨(some 45), .ext (.t 33) 0, none⟩,
  ⟨(some 46), .ext (.t 33) 1, none⟩,
  ⟨(some 8), .mv (.t 45), none⟩,
  ⟨(some 9), .mv (.t 46), none⟩]
abbrev o_rotalaw05_do_5 : List IOper := [⟨(some 47), .mv (.t 1), none⟩,
  ⟨(some 48), .fa 1 (.t 5), none⟩,
  ⟨(some 49), .ld none (.t 48), none⟩,
  ⟨(some 50), .fa 2 (.t 5), none⟩,
  ⟨(some 51), .ld none (.t 50), none⟩,
  ⟨(some 52), .fa 4 (.t 5), none⟩,
  ⟨(some 53), .ld none (.t 52), none⟩,
  ⟨(some 54), .call (.k (.c (.fn fn_rotaref05_Kernel_Run [] []))) [(.t 47), (.t 49), (.t 51), (.t 53)], none⟩,
  ⟨(some 10), .mv (.t 54), none⟩]
abbrev o_rotalaw05_do_6 : List IOper := [⟨(some 55), .mv (.t 9), none⟩,
  ⟨(some 56), .mv (.t 10), none⟩,
  ⟨(some 57), .len false (.t 56), none⟩,
  ⟨(some 58), .bin .eql (.t 55) (.t 57), none⟩,
  ⟨(some 59), .mv (.t 58), none⟩,
  ⟨(some 60), .mv (.t 8), some (59, true)⟩,
  ⟨(some 61), .mv (.t 10), some (59, true)⟩,
  ⟨(some 62), .fa 2 (.t 5), some (59, true)⟩,
  ⟨(some 63), .ld none (.t 62), some (59, true)⟩,
  ⟨(some 64), .call (.k (.c (.fn fn_rotalaw05_results [] []))) [(.t 60), (.t 61), (.t 63)], some (59, true)⟩,
  ⟨(some 65), .pick (.t 59) (.t 64) (.k (.c (.bool false))), none⟩,
  ⟨(some 66), .mv (.t 65), none⟩,
  ⟨(some 67), .mv (.t 7), some (66, true)⟩,
  ⟨(some 68), .fa 4 (.t 5), some (66, true)⟩,
  ⟨(some 69), .ld none (.t 68), some (66, true)⟩,
  ⟨(some 70), .call (.k (.c (.fn fn_rotalaw05_unlike [] []))) [(.t 67), (.t 69)], some (66, true)⟩,
  ⟨(some 71), .un .not (.t 70), some (66, true)⟩,
  ⟨(some 72), .pick (.t 66) (.t 71) (.k (.c (.bool false))), none⟩,
  ⟨(some 11), .mv (.t 72), none⟩]
abbrev o_rotalaw05_do_7 : List IOper := [⟨(some 73), .mv (.t 7), none⟩,
  ⟨(some 74), .len false (.t 73), none⟩,
  ⟨(some 75), .mv (.k (.c (.int .i64 0))), none⟩]
abbrev o_rotalaw05_do_8 : List IOper := [⟨(some 76), .bin .lss (.t 75) (.t 74), none⟩]
abbrev o_rotalaw05_do_9 : List IOper := [⟨(some 77), .mv (.t 75), none⟩,
  ⟨(some 12), .mv (.t 77), none⟩]
abbrev o_rotalaw05_do_10 : List IOper := [⟨(some 78), .mv (.t 7), none⟩,
  ⟨(some 79), .mv (.t 12), none⟩,
  ⟨(some 80), .iaS 5 (.t 78) (.t 79), none⟩,
  ⟨(some 81), .fa 4 (.t 80), none⟩,
  ⟨(some 82), .ld none (.t 81), none⟩,
  ⟨(some 83), .len false (.t 82), none⟩,
  ⟨(some 84), .mv (.k (.c (.int .i64 0))), none⟩]
abbrev o_rotalaw05_do_11 : List IOper := [⟨(some 85), .bin .lss (.t 84) (.t 83), none⟩]
abbrev o_rotalaw05_do_12 : List IOper := [⟨(some 86), .mv (.t 84), none⟩,
  ⟨(some 13), .mv (.t 86), none⟩]
abbrev o_rotalaw05_do_13 : List IOper := [⟨(some 87), .mv (.t 7), none⟩,
  ⟨(some 88), .mv (.t 12), none⟩,
  ⟨(some 89), .iaS 5 (.t 87) (.t 88), none⟩,
  ⟨(some 90), .fa 4 (.t 89), none⟩,
  ⟨(some 91), .ld none (.t 90), none⟩,
  ⟨(some 92), .mv (.t 13), none⟩,
  ⟨(some 93), .iaS 1 (.t 91) (.t 92), none⟩,
  ⟨none, .st 1 (.t 93) (.k (.c (.int .u8 99))), none⟩]
abbrev o_rotalaw05_do_14 : List IOper := [⟨(some 94), .bin .add (.t 84) (.k (.c (.int .i64 1))), none⟩,
  ⟨(some 84), .mv (.t 94), none⟩]
def b_rotalaw05_do_15 : IC := (.seq (.ops o_rotalaw05_do_11) (.seq (.cond (.t 85) .skip (.exit 3)) (.seq (.block 4 (.seq (.ops o_rotalaw05_do_12) (.ops o_rotalaw05_do_13))) (.ops o_rotalaw05_do_14))))
abbrev o_rotalaw05_do_16 : List IOper := [⟨(some 95), .bin .add (.t 75) (.k (.c (.int .i64 1))), none⟩,
  ⟨(some 75), .mv (.t 95), none⟩]
def b_rotalaw05_do_17 : IC := (.seq (.ops o_rotalaw05_do_8) (.seq (.cond (.t 76) .skip (.exit 1)) (.seq (.block 2 (.seq (.ops o_rotalaw05_do_9) (.seq (.ops o_rotalaw05_do_10) (.block 3 (.loop b_rotalaw05_do_15))))) (.ops o_rotalaw05_do_16))))
abbrev o_rotalaw05_do_18 : List IOper := [⟨(some 96), .mv (.t 11), none⟩,
  ⟨(some 6), .mv (.t 96), none⟩]
abbrev o_rotalaw05_do_19 : List IOper := [⟨(some 98), .bin .eql (.t 27) (.k (.c (.int .i64 1))), none⟩,
  ⟨(some 97), .mv (.t 98), none⟩]
abbrev o_rotalaw05_do_20 : List IOper := [⟨(some 100), .mv (.t 0), none⟩,
  ⟨(some 101), .fa 1 (.t 5), none⟩,
  ⟨(some 102), .ld none (.t 101), none⟩,
  ⟨(some 103), .call (.k (.c (.fn fn_kern_Kernel_Take [] []))) [(.t 100), (.t 102)], none⟩,
  ⟨(some 99), .mv (.t 103), none⟩,
  ⟨(some 104), .ext (.t 99) 0, none⟩,
  ⟨(some 105), .ext (.t 99) 1, none⟩,
  ⟨(some 14), .mv (.t 104), none⟩,
  ⟨(some 15), .mv (.t 105), none⟩]
abbrev o_rotalaw05_do_21 : List IOper := [⟨(some 107), .mv (.t 1), none⟩,
  ⟨(some 108), .fa 1 (.t 5), none⟩,
  ⟨(some 109), .ld none (.t 108), none⟩,
  ⟨(some 110), .call (.k (.c (.fn fn_rotaref05_Kernel_Take [] []))) [(.t 107), (.t 109)], none⟩,
  ⟨(some 106), .mv (.t 110), none⟩,
  ⟨(some 111), .ext (.t 106) 0, none⟩,
  ⟨(some 112), .ext (.t 106) 1, none⟩,
  ⟨(some 16), .mv (.t 111), none⟩,
  ⟨(some 17), .mv (.t 112), none⟩]
abbrev o_rotalaw05_do_22 : List IOper := [⟨(some 113), .mv (.t 14), none⟩,
  ⟨(some 114), .b2s (.t 113), none⟩,
  ⟨(some 115), .mv (.t 16), none⟩,
  ⟨(some 116), .b2s (.t 115), none⟩,
  ⟨(some 117), .bin .eql (.t 114) (.t 116), none⟩,
  ⟨(some 118), .mv (.t 117), none⟩,
  ⟨(some 119), .mv (.t 15), some (118, true)⟩,
  ⟨(some 120), .mv (.t 17), some (118, true)⟩,
  ⟨(some 121), .eq .bool false (.t 119) (.t 120), some (118, true)⟩,
  ⟨(some 122), .pick (.t 118) (.t 121) (.k (.c (.bool false))), none⟩,
  ⟨(some 18), .mv (.t 122), none⟩]
abbrev o_rotalaw05_do_23 : List IOper := [⟨(some 123), .mv (.t 14), none⟩,
  ⟨(some 124), .len false (.t 123), none⟩,
  ⟨(some 125), .mv (.k (.c (.int .i64 0))), none⟩]
abbrev o_rotalaw05_do_24 : List IOper := [⟨(some 126), .bin .lss (.t 125) (.t 124), none⟩]
abbrev o_rotalaw05_do_25 : List IOper := [⟨(some 127), .mv (.t 125), none⟩,
  ⟨(some 19), .mv (.t 127), none⟩]
abbrev o_rotalaw05_do_26 : List IOper := [⟨(some 128), .mv (.t 14), none⟩,
  ⟨(some 129), .mv (.t 19), none⟩,
  ⟨(some 130), .mv (.t 14), none⟩,
  ⟨(some 131), .mv (.t 19), none⟩,
  ⟨(some 132), .iaS 1 (.t 130) (.t 131), none⟩,
  ⟨(some 133), .ld none (.t 132), none⟩,
  ⟨(some 134), .bin .add (.t 133) (.k (.c (.int .u8 1))), none⟩,
  ⟨(some 135), .iaS 1 (.t 128) (.t 129), none⟩,
  ⟨none, .st 1 (.t 135) (.t 134), none⟩]
abbrev o_rotalaw05_do_27 : List IOper := [⟨(some 136), .bin .add (.t 125) (.k (.c (.int .i64 1))), none⟩,
  ⟨(some 125), .mv (.t 136), none⟩]
def b_rotalaw05_do_28 : IC := (.seq (.ops o_rotalaw05_do_24) (.seq (.cond (.t 126) .skip (.exit 5)) (.seq (.block 6 (.seq (.ops o_rotalaw05_do_25) (.ops o_rotalaw05_do_26))) (.ops o_rotalaw05_do_27))))
abbrev o_rotalaw05_do_29 : List IOper := [⟨(some 137), .mv (.t 18), none⟩,
  ⟨(some 6), .mv (.t 137), none⟩]
abbrev o_rotalaw05_do_30 : List IOper := [⟨(some 139), .bin .eql (.t 27) (.k (.c (.int .i64 2))), none⟩,
  ⟨(some 138), .mv (.t 139), none⟩]
abbrev o_rotalaw05_do_31 : List IOper := [⟨(some 140), .fa 3 (.t 5), none⟩,
  ⟨(some 141), .ld none (.t 140), none⟩,
  ⟨(some 142), .call (.k (.c (.fn fn_rotaref04_Twin [] []))) [(.t 141)], none⟩,
  ⟨(some 20), .mv (.t 142), none⟩]
abbrev o_rotalaw05_do_32 : List IOper := [⟨(some 155), .fa 2 (.t 5), none⟩,
  ⟨(some 156), .ld none (.t 155), none⟩,
  ⟨(some 153), .fa 3 (.t 5), none⟩,
  ⟨(some 154), .ld none (.t 153), none⟩,
  ⟨(some 151), .fa 1 (.t 5), none⟩,
  ⟨(some 152), .ld none (.t 151), none⟩,
  ⟨(some 150), .mv (.t 1), none⟩,
  ⟨(some 147), .fa 2 (.t 5), none⟩,
  ⟨(some 148), .ld none (.t 147), none⟩,
  ⟨(some 146), .mv (.t 20), none⟩,
  ⟨(some 144), .fa 1 (.t 5), none⟩,
  ⟨(some 145), .ld none (.t 144), none⟩,
  ⟨(some 143), .mv (.t 0), none⟩,
  ⟨(some 149), .call (.k (.c (.fn fn_kern_Kernel_Arrive [] []))) [(.t 143), (.t 145), (.t 146), (.t 148)], none⟩,
  ⟨none, .same (some none) (.t 155) (.t 156), none⟩,
  ⟨none, .same (some none) (.t 153) (.t 154), none⟩,
  ⟨none, .same (some none) (.t 151) (.t 152), none⟩,
  ⟨(some 157), .call (.k (.c (.fn fn_rotaref05_Kernel_Arrive [] []))) [(.t 150), (.t 152), (.t 154), (.t 156)], none⟩,
  ⟨(some 158), .bin .eql (.t 149) (.t 157), none⟩,
  ⟨(some 159), .mv (.t 158), none⟩,
  ⟨(some 162), .fa 3 (.t 5), some (159, true)⟩,
  ⟨(some 163), .ld none (.t 162), some (159, true)⟩,
  ⟨(some 164), .b2s (.t 163), some (159, true)⟩,
  ⟨(some 160), .mv (.t 20), some (159, true)⟩,
  ⟨(some 161), .b2s (.t 160), some (159, true)⟩,
  ⟨(some 165), .bin .eql (.t 161) (.t 164), some (159, true)⟩,
  ⟨(some 166), .pick (.t 159) (.t 165) (.k (.c (.bool false))), none⟩,
  ⟨(some 21), .mv (.t 166), none⟩]
abbrev o_rotalaw05_do_33 : List IOper := [⟨(some 167), .mv (.t 20), none⟩,
  ⟨(some 168), .len false (.t 167), none⟩,
  ⟨(some 169), .mv (.k (.c (.int .i64 0))), none⟩]
abbrev o_rotalaw05_do_34 : List IOper := [⟨(some 170), .bin .lss (.t 169) (.t 168), none⟩]
abbrev o_rotalaw05_do_35 : List IOper := [⟨(some 171), .mv (.t 169), none⟩,
  ⟨(some 22), .mv (.t 171), none⟩]
abbrev o_rotalaw05_do_36 : List IOper := [⟨(some 172), .mv (.t 20), none⟩,
  ⟨(some 173), .mv (.t 22), none⟩,
  ⟨(some 174), .iaS 1 (.t 172) (.t 173), none⟩,
  ⟨none, .st 1 (.t 174) (.k (.c (.int .u8 99))), none⟩]
abbrev o_rotalaw05_do_37 : List IOper := [⟨(some 175), .bin .add (.t 169) (.k (.c (.int .i64 1))), none⟩,
  ⟨(some 169), .mv (.t 175), none⟩]
def b_rotalaw05_do_38 : IC := (.seq (.ops o_rotalaw05_do_34) (.seq (.cond (.t 170) .skip (.exit 7)) (.seq (.block 8 (.seq (.ops o_rotalaw05_do_35) (.ops o_rotalaw05_do_36))) (.ops o_rotalaw05_do_37))))
abbrev o_rotalaw05_do_39 : List IOper := [⟨(some 176), .mv (.t 21), none⟩,
  ⟨(some 6), .mv (.t 176), none⟩]
abbrev o_rotalaw05_do_40 : List IOper := [⟨(some 178), .bin .eql (.t 27) (.k (.c (.int .i64 3))), none⟩,
  ⟨(some 177), .mv (.t 178), none⟩]
abbrev o_rotalaw05_do_41 : List IOper := [⟨(some 179), .mv (.t 1), none⟩,
  ⟨(some 180), .call (.k (.c (.fn fn_rotaref05_Kernel_Restart [] []))) [(.t 179)], none⟩]
abbrev o_rotalaw05_do_42 : List IOper := [⟨(some 181), .mv (.t 0), none⟩,
  ⟨(some 182), .call (.k (.c (.fn fn_kern_Kernel_Restart [] []))) [(.t 181)], none⟩,
  ⟨(some 183), .bin .eql (.t 182) (.k (.c (.int .i64 0))), none⟩,
  ⟨(some 6), .mv (.t 183), none⟩]
abbrev o_rotalaw05_do_43 : List IOper := [⟨(some 185), .bin .eql (.t 27) (.k (.c (.int .i64 4))), none⟩,
  ⟨(some 184), .mv (.t 185), none⟩]
abbrev o_rotalaw05_do_44 : List IOper := [⟨(some 191), .fa 1 (.t 5), none⟩,
  ⟨(some 192), .ld none (.t 191), none⟩,
  ⟨(some 190), .mv (.t 1), none⟩,
  ⟨(some 187), .fa 1 (.t 5), none⟩,
  ⟨(some 188), .ld none (.t 187), none⟩,
  ⟨(some 186), .mv (.t 0), none⟩,
  ⟨(some 189), .call (.k (.c (.fn fn_kern_Kernel_Faults [] []))) [(.t 186), (.t 188)], none⟩,
  ⟨none, .same (some none) (.t 191) (.t 192), none⟩,
  ⟨(some 193), .call (.k (.c (.fn fn_rotaref05_Kernel_Count [] []))) [(.t 190), (.t 192)], none⟩,
  ⟨(some 194), .bin .eql (.t 189) (.t 193), none⟩,
  ⟨(some 195), .mv (.t 194), none⟩,
  ⟨(some 201), .fa 1 (.t 5), some (195, true)⟩,
  ⟨(some 202), .ld none (.t 201), some (195, true)⟩,
  ⟨(some 200), .mv (.t 1), some (195, true)⟩,
  ⟨(some 197), .fa 1 (.t 5), some (195, true)⟩,
  ⟨(some 198), .ld none (.t 197), some (195, true)⟩,
  ⟨(some 196), .mv (.t 0), some (195, true)⟩,
  ⟨(some 199), .call (.k (.c (.fn fn_kern_Kernel_Stopped [] []))) [(.t 196), (.t 198)], some (195, true)⟩,
  ⟨none, .same (some none) (.t 201) (.t 202), some (195, true)⟩,
  ⟨(some 203), .call (.k (.c (.fn fn_rotaref05_Kernel_Count [] []))) [(.t 200), (.t 202)], some (195, true)⟩,
  ⟨(some 204), .bin .geq (.t 203) (.k (.c (.int .i64 3))), some (195, true)⟩,
  ⟨(some 205), .eq .bool false (.t 199) (.t 204), some (195, true)⟩,
  ⟨(some 206), .pick (.t 195) (.t 205) (.k (.c (.bool false))), none⟩,
  ⟨(some 6), .mv (.t 206), none⟩]
abbrev o_rotalaw05_do_45 : List IOper := [⟨(some 208), .bin .eql (.t 27) (.k (.c (.int .i64 5))), none⟩,
  ⟨(some 207), .mv (.t 208), none⟩]
abbrev o_rotalaw05_do_46 : List IOper := [⟨(some 209), .mv (.t 0), none⟩,
  ⟨(some 210), .fa 1 (.t 5), none⟩,
  ⟨(some 211), .ld none (.t 210), none⟩,
  ⟨(some 212), .call (.k (.c (.fn fn_kern_Kernel_Memory [] []))) [(.t 209), (.t 211)], none⟩,
  ⟨(some 23), .mv (.t 212), none⟩]
abbrev o_rotalaw05_do_47 : List IOper := [⟨(some 216), .fa 1 (.t 5), none⟩,
  ⟨(some 217), .ld none (.t 216), none⟩,
  ⟨(some 215), .mv (.t 1), none⟩,
  ⟨(some 213), .mv (.t 23), none⟩,
  ⟨(some 214), .b2s (.t 213), none⟩,
  ⟨(some 218), .call (.k (.c (.fn fn_rotaref05_Kernel_Memory [] []))) [(.t 215), (.t 217)], none⟩,
  ⟨none, .same none (.t 213) (.t 214), none⟩,
  ⟨(some 219), .b2s (.t 218), none⟩,
  ⟨(some 220), .bin .eql (.t 214) (.t 219), none⟩,
  ⟨(some 24), .mv (.t 220), none⟩]
abbrev o_rotalaw05_do_48 : List IOper := [⟨(some 221), .mv (.t 23), none⟩,
  ⟨(some 222), .len false (.t 221), none⟩,
  ⟨(some 223), .mv (.k (.c (.int .i64 0))), none⟩]
abbrev o_rotalaw05_do_49 : List IOper := [⟨(some 224), .bin .lss (.t 223) (.t 222), none⟩]
abbrev o_rotalaw05_do_50 : List IOper := [⟨(some 225), .mv (.t 223), none⟩,
  ⟨(some 25), .mv (.t 225), none⟩]
abbrev o_rotalaw05_do_51 : List IOper := [⟨(some 226), .mv (.t 23), none⟩,
  ⟨(some 227), .mv (.t 25), none⟩,
  ⟨(some 228), .iaS 1 (.t 226) (.t 227), none⟩,
  ⟨none, .st 1 (.t 228) (.k (.c (.int .u8 99))), none⟩]
abbrev o_rotalaw05_do_52 : List IOper := [⟨(some 229), .bin .add (.t 223) (.k (.c (.int .i64 1))), none⟩,
  ⟨(some 223), .mv (.t 229), none⟩]
def b_rotalaw05_do_53 : IC := (.seq (.ops o_rotalaw05_do_49) (.seq (.cond (.t 224) .skip (.exit 9)) (.seq (.block 10 (.seq (.ops o_rotalaw05_do_50) (.ops o_rotalaw05_do_51))) (.ops o_rotalaw05_do_52))))
abbrev o_rotalaw05_do_54 : List IOper := [⟨(some 230), .mv (.t 24), none⟩,
  ⟨(some 6), .mv (.t 230), none⟩]
abbrev o_rotalaw05_do_55 : List IOper := [⟨(some 232), .bin .eql (.t 27) (.k (.c (.int .i64 6))), none⟩,
  ⟨(some 231), .mv (.t 232), none⟩]
abbrev o_rotalaw05_do_56 : List IOper := [⟨(some 238), .fa 1 (.t 5), none⟩,
  ⟨(some 239), .ld none (.t 238), none⟩,
  ⟨(some 237), .mv (.t 1), none⟩,
  ⟨(some 234), .fa 1 (.t 5), none⟩,
  ⟨(some 235), .ld none (.t 234), none⟩,
  ⟨(some 233), .mv (.t 0), none⟩,
  ⟨(some 236), .call (.k (.c (.fn fn_kern_Kernel_Waiting [] []))) [(.t 233), (.t 235)], none⟩,
  ⟨none, .same (some none) (.t 238) (.t 239), none⟩,
  ⟨(some 240), .call (.k (.c (.fn fn_rotaref05_Kernel_Waiting [] []))) [(.t 237), (.t 239)], none⟩,
  ⟨(some 241), .bin .eql (.t 236) (.t 240), none⟩,
  ⟨(some 6), .mv (.t 241), none⟩]
abbrev o_rotalaw05_do_57 : List IOper := [⟨(some 6), .mv (.k (.c (.bool true))), none⟩]
def c_rotalaw05_do : IC := (.seq (.ops o_rotalaw05_do_0) (.seq (.seq (.ops o_rotalaw05_do_1) (.block 0 (.seq (.ops o_rotalaw05_do_2) (.cond (.t 28) (.seq (.ops o_rotalaw05_do_3) (.seq (.ops o_rotalaw05_do_4) (.seq (.ops o_rotalaw05_do_5) (.seq (.ops o_rotalaw05_do_6) (.seq (.seq (.ops o_rotalaw05_do_7) (.block 1 (.loop b_rotalaw05_do_17))) (.seq (.ops o_rotalaw05_do_18) .ret)))))) (.seq (.ops o_rotalaw05_do_19) (.cond (.t 97) (.seq (.ops o_rotalaw05_do_20) (.seq (.ops o_rotalaw05_do_21) (.seq (.ops o_rotalaw05_do_22) (.seq (.seq (.ops o_rotalaw05_do_23) (.block 5 (.loop b_rotalaw05_do_28))) (.seq (.ops o_rotalaw05_do_29) .ret))))) (.seq (.ops o_rotalaw05_do_30) (.cond (.t 138) (.seq (.ops o_rotalaw05_do_31) (.seq (.ops o_rotalaw05_do_32) (.seq (.seq (.ops o_rotalaw05_do_33) (.block 7 (.loop b_rotalaw05_do_38))) (.seq (.ops o_rotalaw05_do_39) .ret)))) (.seq (.ops o_rotalaw05_do_40) (.cond (.t 177) (.seq (.ops o_rotalaw05_do_41) (.seq (.ops o_rotalaw05_do_42) .ret)) (.seq (.ops o_rotalaw05_do_43) (.cond (.t 184) (.seq (.ops o_rotalaw05_do_44) .ret) (.seq (.ops o_rotalaw05_do_45) (.cond (.t 207) (.seq (.ops o_rotalaw05_do_46) (.seq (.ops o_rotalaw05_do_47) (.seq (.seq (.ops o_rotalaw05_do_48) (.block 9 (.loop b_rotalaw05_do_53))) (.seq (.ops o_rotalaw05_do_54) .ret)))) (.seq (.ops o_rotalaw05_do_55) (.cond (.t 231) (.seq (.ops o_rotalaw05_do_56) .ret) .skip)))))))))))))))) (.seq (.ops o_rotalaw05_do_57) .ret)))
def i_rotalaw05_do : IFn := ⟨242, c_rotalaw05_do, [(6, none)]⟩

-- F 20 rota/rotalaw05.two: bads 0, calls []
abbrev o_rotalaw05_two_0 : List IOper := [⟨(some 0), .new 28 (.agg ([(.int .i64 0)] ++ [(.sl none 0 0 false)] ++ List.replicate 6 (.int .i64 0) ++ List.replicate 4 (.sl none 0 0 false))), none⟩]
abbrev o_rotalaw05_two_1 : List IOper := [⟨(some 3), .bsl 3 4 (List.replicate 4 (.int .i64 0)) [(0, 1, (.k (.c (.int .i64 0)))), (1, 1, (.k (.c (.int .i64 1)))), (2, 1, (.k (.c (.int .i64 2)))), (3, 1, (.k (.c (.int .i64 3))))], none⟩,
  ⟨(some 4), .build [(.int .i64 0), (.int .i64 0), (.int .i64 0)] [(2, 1, (.k (.c (.int .i64 4))))], none⟩,
  ⟨(some 5), .build [(.int .i64 0), (.int .i64 0), (.int .i64 0)] [(1, 1, (.k (.c (.int .i64 4)))), (2, 1, (.k (.c (.int .i64 8))))], none⟩,
  ⟨(some 6), .build [(.int .i64 0), (.int .i64 0), (.int .i64 0)] [(0, 1, (.k (.c (.int .i64 1)))), (2, 1, (.k (.c (.int .i64 256))))], none⟩,
  ⟨(some 7), .bsl 38 3 (List.replicate 9 (.int .i64 0)) [(0, 3, (.t 4)), (3, 3, (.t 5)), (6, 3, (.t 6))], none⟩,
  ⟨(some 8), .build (List.replicate 6 (.int .i64 0)) [(1, 1, (.k (.c (.int .i64 1)))), (2, 1, (.k (.c (.int .i64 1)))), (3, 1, (.k (.c (.int .i64 1))))], none⟩,
  ⟨(some 9), .bsl 67 1 (List.replicate 6 (.int .i64 0)) [(0, 6, (.t 8))], none⟩,
  ⟨(some 10), .build ([(.int .i64 0)] ++ [(.sl none 0 0 false)] ++ List.replicate 6 (.int .i64 0) ++ List.replicate 4 (.sl none 0 0 false)) [(0, 1, (.k (.c (.int .i64 4)))), (1, 1, (.t 3)), (4, 1, (.k (.c (.int .i64 9)))), (5, 1, (.k (.c (.int .i64 9)))), (6, 1, (.k (.c (.int .i64 1)))), (7, 1, (.k (.c (.int .i64 3)))), (8, 1, (.t 7)), (10, 1, (.t 9))], none⟩,
  ⟨(some 1), .new 28 (.agg ([(.int .i64 0)] ++ [(.sl none 0 0 false)] ++ List.replicate 6 (.int .i64 0) ++ List.replicate 4 (.sl none 0 0 false))), none⟩,
  ⟨none, .st 12 (.t 1) (.t 10), none⟩]
abbrev o_rotalaw05_two_2 : List IOper := [⟨(some 2), .mv (.k (.c (.int .i64 0))), none⟩]
abbrev o_rotalaw05_two_3 : List IOper := [⟨(some 11), .mv (.t 2), none⟩,
  ⟨(some 12), .bin .lss (.t 11) (.k (.c (.int .i64 4))), none⟩]
abbrev o_rotalaw05_two_4 : List IOper := [⟨(some 15), .fa 9 (.t 1), none⟩,
  ⟨(some 16), .ld none (.t 15), none⟩,
  ⟨(some 17), .bsl 3 4 (List.replicate 4 (.int .i64 0)) [(0, 1, (.k (.c (.int .i64 (-1))))), (1, 1, (.k (.c (.int .i64 (-1))))), (2, 1, (.k (.c (.int .i64 (-1))))), (3, 1, (.k (.c (.int .i64 (-1)))))], none⟩,
  ⟨(some 18), .bsl 22 1 [(.sl none 0 0 false)] [(0, 1, (.t 17))], none⟩,
  ⟨(some 19), .app 22 1 24 (.t 16) (.t 18), none⟩,
  ⟨(some 20), .fa 9 (.t 1), none⟩,
  ⟨none, .st 1 (.t 20) (.t 19), none⟩]
abbrev o_rotalaw05_two_5 : List IOper := [⟨(some 13), .mv (.t 2), none⟩,
  ⟨(some 14), .bin .add (.t 13) (.k (.c (.int .i64 1))), none⟩,
  ⟨(some 2), .mv (.t 14), none⟩]
def b_rotalaw05_two_6 : IC := (.seq (.seq (.ops o_rotalaw05_two_3) (.cond (.t 12) .skip (.exit 0))) (.seq (.block 1 (.ops o_rotalaw05_two_4)) (.ops o_rotalaw05_two_5)))
abbrev o_rotalaw05_two_7 : List IOper := [⟨(some 21), .ld (some 12) (.t 1), none⟩,
  ⟨none, .st 12 (.t 0) (.t 21), none⟩]
def c_rotalaw05_two : IC := (.seq (.ops o_rotalaw05_two_0) (.seq (.ops o_rotalaw05_two_1) (.seq (.seq (.ops o_rotalaw05_two_2) (.block 0 (.loop b_rotalaw05_two_6))) (.seq (.ops o_rotalaw05_two_7) .ret))))
def i_rotalaw05_two : IFn := ⟨22, c_rotalaw05_two, [(0, (some (some 12)))]⟩

-- F 21 rota/rotalaw05.are: bads 0, calls [48]
abbrev o_rotalaw05_are_0 : List IOper := [⟨(some 4), .mv (.k (.c (.bool false))), none⟩]
abbrev o_rotalaw05_are_1 : List IOper := [⟨(some 7), .mv (.t 0), none⟩,
  ⟨(some 8), .call (.k (.c (.fn fn_rotalaw05_errs [] []))) [(.t 7)], none⟩,
  ⟨(some 5), .mv (.t 8), none⟩]
abbrev o_rotalaw05_are_2 : List IOper := [⟨(some 9), .mv (.t 5), none⟩,
  ⟨(some 10), .len false (.t 9), none⟩,
  ⟨(some 11), .mv (.t 1), none⟩,
  ⟨(some 12), .len false (.t 11), none⟩,
  ⟨(some 13), .bin .neq (.t 10) (.t 12), none⟩]
abbrev o_rotalaw05_are_3 : List IOper := [⟨(some 4), .mv (.k (.c (.bool false))), none⟩]
abbrev o_rotalaw05_are_4 : List IOper := [⟨(some 14), .mv (.t 5), none⟩,
  ⟨(some 15), .len false (.t 14), none⟩,
  ⟨(some 16), .mv (.k (.c (.int .i64 0))), none⟩]
abbrev o_rotalaw05_are_5 : List IOper := [⟨(some 17), .bin .lss (.t 16) (.t 15), none⟩]
abbrev o_rotalaw05_are_6 : List IOper := [⟨(some 18), .mv (.t 16), none⟩,
  ⟨(some 6), .mv (.t 18), none⟩]
abbrev o_rotalaw05_are_7 : List IOper := [⟨(some 19), .mv (.t 5), none⟩,
  ⟨(some 20), .mv (.t 6), none⟩,
  ⟨(some 21), .iaS 1 (.t 19) (.t 20), none⟩,
  ⟨(some 22), .ld none (.t 21), none⟩,
  ⟨(some 23), .mv (.t 1), none⟩,
  ⟨(some 24), .mv (.t 6), none⟩,
  ⟨(some 25), .iaS 1 (.t 23) (.t 24), none⟩,
  ⟨(some 26), .ld none (.t 25), none⟩,
  ⟨(some 27), .bin .neq (.t 22) (.t 26), none⟩]
abbrev o_rotalaw05_are_8 : List IOper := [⟨(some 4), .mv (.k (.c (.bool false))), none⟩]
abbrev o_rotalaw05_are_9 : List IOper := [⟨(some 28), .bin .add (.t 16) (.k (.c (.int .i64 1))), none⟩,
  ⟨(some 16), .mv (.t 28), none⟩]
def b_rotalaw05_are_10 : IC := (.seq (.ops o_rotalaw05_are_5) (.seq (.cond (.t 17) .skip (.exit 0)) (.seq (.block 1 (.seq (.ops o_rotalaw05_are_6) (.seq (.ops o_rotalaw05_are_7) (.cond (.t 27) (.seq (.ops o_rotalaw05_are_8) .ret) .skip)))) (.ops o_rotalaw05_are_9))))
abbrev o_rotalaw05_are_11 : List IOper := [⟨(some 4), .mv (.k (.c (.bool true))), none⟩]
def c_rotalaw05_are : IC := (.seq (.ops o_rotalaw05_are_0) (.seq (.ops o_rotalaw05_are_1) (.seq (.seq (.ops o_rotalaw05_are_2) (.cond (.t 13) (.seq (.ops o_rotalaw05_are_3) .ret) .skip)) (.seq (.seq (.ops o_rotalaw05_are_4) (.block 0 (.loop b_rotalaw05_are_10))) (.seq (.ops o_rotalaw05_are_11) .ret)))))
def i_rotalaw05_are : IFn := ⟨29, c_rotalaw05_are, [(4, none)]⟩

-- F 22 (*rota/kern.Kernel).Take: bads 0, calls [49, 50]
abbrev o_kern_Kernel_Take_0 : List IOper := [⟨(some 4), .mv (.k (.c (.sl none 0 0 false))), none⟩,
  ⟨(some 5), .mv (.k (.c (.bool false))), none⟩]
abbrev o_kern_Kernel_Take_1 : List IOper := [⟨(some 6), .mv (.t 0), none⟩,
  ⟨(some 7), .mv (.t 1), none⟩,
  ⟨(some 8), .call (.k (.c (.fn fn_kern_Kernel_box [] []))) [(.t 6), (.t 7)], none⟩,
  ⟨(some 9), .call (.k (.c (.fn fn_port_Box_Take [] []))) [(.t 8)], none⟩,
  ⟨(some 10), .ext (.t 9) 0, none⟩,
  ⟨(some 11), .ext (.t 9) 1, none⟩,
  ⟨(some 4), .mv (.t 10), none⟩,
  ⟨(some 5), .mv (.t 11), none⟩]
def c_kern_Kernel_Take : IC := (.seq (.ops o_kern_Kernel_Take_0) (.seq (.ops o_kern_Kernel_Take_1) .ret))
def i_kern_Kernel_Take : IFn := ⟨12, c_kern_Kernel_Take, [(4, none), (5, none)]⟩

-- F 23 (*rota/kern.Kernel).Arrive: bads 0, calls [28, 49, 51]
abbrev o_kern_Kernel_Arrive_0 : List IOper := [⟨(some 8), .mv (.k (.c (.int .i64 0))), none⟩]
abbrev o_kern_Kernel_Arrive_1 : List IOper := [⟨(some 10), .mv (.t 0), none⟩,
  ⟨(some 11), .call (.k (.c (.fn fn_kern_Kernel_none [] []))) [(.t 10)], none⟩]
abbrev o_kern_Kernel_Arrive_2 : List IOper := [⟨(some 8), .mv (.k (.c (.int .i64 1))), none⟩]
abbrev o_kern_Kernel_Arrive_3 : List IOper := [⟨(some 12), .mv (.t 0), none⟩,
  ⟨(some 13), .mv (.t 1), none⟩,
  ⟨(some 14), .call (.k (.c (.fn fn_kern_Kernel_box [] []))) [(.t 12), (.t 13)], none⟩,
  ⟨(some 9), .mv (.t 14), none⟩]
abbrev o_kern_Kernel_Arrive_4 : List IOper := [⟨(some 15), .mv (.t 9), none⟩,
  ⟨(some 16), .eq .ptr false (.t 15) (.k (.c (.ptr none))), none⟩]
abbrev o_kern_Kernel_Arrive_5 : List IOper := [⟨(some 8), .mv (.k (.c (.int .i64 40))), none⟩]
abbrev o_kern_Kernel_Arrive_6 : List IOper := [⟨(some 17), .mv (.t 9), none⟩,
  ⟨(some 18), .mv (.t 2), none⟩,
  ⟨(some 19), .mv (.t 3), none⟩,
  ⟨(some 20), .call (.k (.c (.fn fn_port_Box_Arrive [] []))) [(.t 17), (.t 18), (.t 19)], none⟩,
  ⟨(some 8), .mv (.t 20), none⟩]
def c_kern_Kernel_Arrive : IC := (.seq (.ops o_kern_Kernel_Arrive_0) (.seq (.seq (.ops o_kern_Kernel_Arrive_1) (.cond (.t 11) (.seq (.ops o_kern_Kernel_Arrive_2) .ret) .skip)) (.seq (.ops o_kern_Kernel_Arrive_3) (.seq (.seq (.ops o_kern_Kernel_Arrive_4) (.cond (.t 16) (.seq (.ops o_kern_Kernel_Arrive_5) .ret) .skip)) (.seq (.ops o_kern_Kernel_Arrive_6) .ret)))))
def i_kern_Kernel_Arrive : IFn := ⟨21, c_kern_Kernel_Arrive, [(8, none)]⟩

-- F 24 (*rota/kern.Kernel).Waiting: bads 0, calls [49, 52]
abbrev o_kern_Kernel_Waiting_0 : List IOper := [⟨(some 4), .mv (.k (.c (.int .i64 0))), none⟩]
abbrev o_kern_Kernel_Waiting_1 : List IOper := [⟨(some 5), .mv (.t 0), none⟩,
  ⟨(some 6), .mv (.t 1), none⟩,
  ⟨(some 7), .call (.k (.c (.fn fn_kern_Kernel_box [] []))) [(.t 5), (.t 6)], none⟩,
  ⟨(some 8), .call (.k (.c (.fn fn_port_Box_Len [] []))) [(.t 7)], none⟩,
  ⟨(some 4), .mv (.t 8), none⟩]
def c_kern_Kernel_Waiting : IC := (.seq (.ops o_kern_Kernel_Waiting_0) (.seq (.ops o_kern_Kernel_Waiting_1) .ret))
def i_kern_Kernel_Waiting : IFn := ⟨9, c_kern_Kernel_Waiting, [(4, none)]⟩

-- F 25 rota/config.Check: bads 0, calls [53]
abbrev o_config_Check_0 : List IOper := [⟨(some 1), .box 28 (.t 0), none⟩,
  ⟨(some 2), .mv (.k (.c (.int .i64 0))), none⟩]
abbrev o_config_Check_1 : List IOper := [⟨(some 3), .mv (.k (.c (.int .i64 21))), none⟩]
abbrev o_config_Check_2 : List IOper := [⟨(some 4), .mv (.t 3), none⟩,
  ⟨(some 5), .bin .leq (.t 4) (.k (.c (.int .i64 26))), none⟩]
abbrev o_config_Check_3 : List IOper := [⟨(some 8), .mv (.t 3), none⟩,
  ⟨(some 9), .ld (some 12) (.t 1), none⟩,
  ⟨(some 10), .call (.k (.c (.fn fn_config_fine [] []))) [(.t 8), (.t 9)], none⟩,
  ⟨(some 11), .un .not (.t 10), none⟩]
abbrev o_config_Check_4 : List IOper := [⟨(some 12), .mv (.t 3), none⟩,
  ⟨(some 2), .mv (.t 12), none⟩]
abbrev o_config_Check_5 : List IOper := [⟨(some 6), .mv (.t 3), none⟩,
  ⟨(some 7), .bin .add (.t 6) (.k (.c (.int .i64 1))), none⟩,
  ⟨(some 3), .mv (.t 7), none⟩]
def b_config_Check_6 : IC := (.seq (.seq (.ops o_config_Check_2) (.cond (.t 5) .skip (.exit 0))) (.seq (.block 1 (.seq (.ops o_config_Check_3) (.cond (.t 11) (.seq (.ops o_config_Check_4) .ret) .skip))) (.ops o_config_Check_5)))
abbrev o_config_Check_7 : List IOper := [⟨(some 2), .mv (.k (.c (.int .i64 0))), none⟩]
def c_config_Check : IC := (.seq (.ops o_config_Check_0) (.seq (.seq (.ops o_config_Check_1) (.block 0 (.loop b_config_Check_6))) (.seq (.ops o_config_Check_7) .ret)))
def i_config_Check : IFn := ⟨13, c_config_Check, [(2, none)]⟩

-- F 26 slices.Clone[[]rota/api.Part,rota/api.Part]: bads 0, calls []
abbrev o_slices_Clone_api_Part_api_Part_0 : List IOper := [⟨(some 2), .mv (.k (.c (.sl none 0 0 false))), none⟩]
abbrev o_slices_Clone_api_Part_api_Part_1 : List IOper := [⟨(some 3), .mv (.t 0), none⟩,
  ⟨(some 4), .eq .sl false (.t 3) (.k (.c (.sl none 0 0 false))), none⟩]
abbrev o_slices_Clone_api_Part_api_Part_2 : List IOper := [⟨(some 2), .mv (.k (.c (.sl none 0 0 false))), none⟩]
abbrev o_slices_Clone_api_Part_api_Part_3 : List IOper := [⟨(some 5), .bsl 38 0 [] [], none⟩,
  ⟨(some 6), .mv (.t 0), none⟩,
  ⟨(some 7), .app 38 3 24 (.t 5) (.t 6), none⟩,
  ⟨(some 2), .mv (.t 7), none⟩]
def c_slices_Clone_api_Part_api_Part : IC := (.seq (.ops o_slices_Clone_api_Part_api_Part_0) (.seq (.seq (.ops o_slices_Clone_api_Part_api_Part_1) (.cond (.t 4) (.seq (.ops o_slices_Clone_api_Part_api_Part_2) .ret) .skip)) (.seq (.ops o_slices_Clone_api_Part_api_Part_3) .ret)))
def i_slices_Clone_api_Part_api_Part : IFn := ⟨8, c_slices_Clone_api_Part_api_Part, [(2, none)]⟩

-- F 27 slices.Clone[[]rota/api.Port,rota/api.Port]: bads 0, calls []
abbrev o_slices_Clone_api_Port_api_Port_0 : List IOper := [⟨(some 2), .mv (.k (.c (.sl none 0 0 false))), none⟩]
abbrev o_slices_Clone_api_Port_api_Port_1 : List IOper := [⟨(some 3), .mv (.t 0), none⟩,
  ⟨(some 4), .eq .sl false (.t 3) (.k (.c (.sl none 0 0 false))), none⟩]
abbrev o_slices_Clone_api_Port_api_Port_2 : List IOper := [⟨(some 2), .mv (.k (.c (.sl none 0 0 false))), none⟩]
abbrev o_slices_Clone_api_Port_api_Port_3 : List IOper := [⟨(some 5), .bsl 67 0 [] [], none⟩,
  ⟨(some 6), .mv (.t 0), none⟩,
  ⟨(some 7), .app 67 6 48 (.t 5) (.t 6), none⟩,
  ⟨(some 2), .mv (.t 7), none⟩]
def c_slices_Clone_api_Port_api_Port : IC := (.seq (.ops o_slices_Clone_api_Port_api_Port_0) (.seq (.seq (.ops o_slices_Clone_api_Port_api_Port_1) (.cond (.t 4) (.seq (.ops o_slices_Clone_api_Port_api_Port_2) .ret) .skip)) (.seq (.ops o_slices_Clone_api_Port_api_Port_3) .ret)))
def i_slices_Clone_api_Port_api_Port : IFn := ⟨8, c_slices_Clone_api_Port_api_Port, [(2, none)]⟩

-- F 28 (*rota/kern.Kernel).none: bads 0, calls []
abbrev o_kern_Kernel_none_0 : List IOper := [⟨(some 2), .mv (.k (.c (.bool false))), none⟩]
abbrev o_kern_Kernel_none_1 : List IOper := [⟨(some 3), .mv (.t 0), none⟩,
  ⟨(some 4), .eq .ptr false (.t 3) (.k (.c (.ptr none))), none⟩,
  ⟨(some 5), .mv (.t 4), none⟩,
  ⟨(some 6), .mv (.t 0), some (5, false)⟩,
  ⟨(some 7), .nilck (.t 6), some (5, false)⟩,
  ⟨(some 8), .fa 0 (.t 7), some (5, false)⟩,
  ⟨(some 9), .ld none (.t 8), some (5, false)⟩,
  ⟨(some 10), .bin .eql (.t 9) (.k (.c (.int .i64 0))), some (5, false)⟩,
  ⟨(some 11), .pick (.t 5) (.k (.c (.bool true))) (.t 10), none⟩,
  ⟨(some 2), .mv (.t 11), none⟩]
def c_kern_Kernel_none : IC := (.seq (.ops o_kern_Kernel_none_0) (.seq (.ops o_kern_Kernel_none_1) .ret))
def i_kern_Kernel_none : IFn := ⟨12, c_kern_Kernel_none, [(2, none)]⟩

-- F 29 rota/port.New: bads 0, calls [54]
abbrev o_port_New_0 : List IOper := [⟨(some 1), .box 67 (.t 0), none⟩,
  ⟨(some 2), .mv (.k (.c (.ptr none))), none⟩,
  ⟨(some 3), .mv (.k (.c (.int .i64 0))), none⟩]
abbrev o_port_New_1 : List IOper := [⟨(some 8), .fa 1 (.t 1), none⟩,
  ⟨(some 9), .ld none (.t 8), none⟩,
  ⟨(some 7), .call (.k (.c (.fn fn_port_kinds [] []))) [], none⟩,
  ⟨none, .same (some none) (.t 8) (.t 9), none⟩,
  ⟨(some 10), .look .int (.c (.ptr none)) false (.t 7) (.t 9), none⟩,
  ⟨(some 4), .mv (.t 10), none⟩]
abbrev o_port_New_2 : List IOper := [⟨(some 11), .mv (.t 4), none⟩,
  ⟨(some 12), .eq .ptr false (.t 11) (.k (.c (.ptr none))), none⟩,
  ⟨(some 13), .mv (.t 12), none⟩,
  ⟨(some 14), .fa 2 (.t 1), some (13, false)⟩,
  ⟨(some 15), .ld none (.t 14), some (13, false)⟩,
  ⟨(some 16), .bin .neq (.t 15) (.k (.c (.int .i64 1))), some (13, false)⟩,
  ⟨(some 17), .mv (.t 16), some (13, false)⟩,
  ⟨(some 18), .fa 2 (.t 1), some (17, true)⟩,
  ⟨(some 19), .ld none (.t 18), some (17, true)⟩,
  ⟨(some 20), .bin .neq (.t 19) (.k (.c (.int .i64 2))), some (17, true)⟩,
  ⟨(some 21), .pick (.t 17) (.t 20) (.k (.c (.bool false))), some (13, false)⟩,
  ⟨(some 22), .pick (.t 13) (.k (.c (.bool true))) (.t 21), none⟩,
  ⟨(some 23), .mv (.t 22), none⟩,
  ⟨(some 24), .fa 3 (.t 1), some (23, false)⟩,
  ⟨(some 25), .ld none (.t 24), some (23, false)⟩,
  ⟨(some 26), .bin .lss (.t 25) (.k (.c (.int .i64 1))), some (23, false)⟩,
  ⟨(some 27), .pick (.t 23) (.k (.c (.bool true))) (.t 26), none⟩,
  ⟨(some 28), .mv (.t 27), none⟩,
  ⟨(some 29), .fa 3 (.t 1), some (28, false)⟩,
  ⟨(some 30), .ld none (.t 29), some (28, false)⟩,
  ⟨(some 31), .bin .gtr (.t 30) (.k (.c (.int .i64 32))), some (28, false)⟩,
  ⟨(some 32), .pick (.t 28) (.k (.c (.bool true))) (.t 31), none⟩]
abbrev o_port_New_3 : List IOper := [⟨(some 2), .mv (.k (.c (.ptr none))), none⟩,
  ⟨(some 3), .mv (.k (.c (.int .i64 40))), none⟩]
abbrev o_port_New_4 : List IOper := [⟨(some 33), .fa 4 (.t 1), none⟩,
  ⟨(some 34), .ld none (.t 33), none⟩,
  ⟨(some 35), .bin .eql (.t 34) (.k (.c (.int .i64 0))), none⟩,
  ⟨(some 36), .fa 5 (.t 1), none⟩,
  ⟨(some 37), .ld none (.t 36), none⟩,
  ⟨(some 38), .bin .eql (.t 37) (.k (.c (.int .i64 0))), none⟩,
  ⟨(some 5), .mv (.t 35), none⟩,
  ⟨(some 6), .mv (.t 38), none⟩]
abbrev o_port_New_5 : List IOper := [⟨(some 39), .fa 1 (.t 1), none⟩,
  ⟨(some 40), .ld none (.t 39), none⟩,
  ⟨(some 41), .bin .eql (.t 40) (.k (.c (.int .i64 2))), none⟩]
abbrev o_port_New_6 : List IOper := [⟨(some 42), .fa 4 (.t 1), none⟩,
  ⟨(some 43), .ld none (.t 42), none⟩,
  ⟨(some 44), .bin .geq (.t 43) (.k (.c (.int .i64 1))), none⟩,
  ⟨(some 45), .mv (.t 44), none⟩,
  ⟨(some 46), .fa 4 (.t 1), some (45, true)⟩,
  ⟨(some 47), .ld none (.t 46), some (45, true)⟩,
  ⟨(some 48), .bin .leq (.t 47) (.k (.c (.int .i64 8))), some (45, true)⟩,
  ⟨(some 49), .pick (.t 45) (.t 48) (.k (.c (.bool false))), none⟩,
  ⟨(some 5), .mv (.t 49), none⟩]
abbrev o_port_New_7 : List IOper := [⟨(some 50), .fa 2 (.t 1), none⟩,
  ⟨(some 51), .ld none (.t 50), none⟩,
  ⟨(some 52), .bin .eql (.t 51) (.k (.c (.int .i64 2))), none⟩]
abbrev o_port_New_8 : List IOper := [⟨(some 53), .fa 5 (.t 1), none⟩,
  ⟨(some 54), .ld none (.t 53), none⟩,
  ⟨(some 55), .bin .geq (.t 54) (.k (.c (.int .i64 1))), none⟩,
  ⟨(some 56), .mv (.t 55), none⟩,
  ⟨(some 57), .fa 5 (.t 1), some (56, true)⟩,
  ⟨(some 58), .ld none (.t 57), some (56, true)⟩,
  ⟨(some 59), .bin .leq (.t 58) (.k (.c (.int .i64 65535))), some (56, true)⟩,
  ⟨(some 60), .pick (.t 56) (.t 59) (.k (.c (.bool false))), none⟩,
  ⟨(some 6), .mv (.t 60), none⟩]
abbrev o_port_New_9 : List IOper := [⟨(some 61), .mv (.t 5), none⟩,
  ⟨(some 62), .un .not (.t 61), none⟩,
  ⟨(some 63), .mv (.t 62), none⟩,
  ⟨(some 64), .mv (.t 6), some (63, false)⟩,
  ⟨(some 65), .un .not (.t 64), some (63, false)⟩,
  ⟨(some 66), .pick (.t 63) (.k (.c (.bool true))) (.t 65), none⟩]
abbrev o_port_New_10 : List IOper := [⟨(some 2), .mv (.k (.c (.ptr none))), none⟩,
  ⟨(some 3), .mv (.k (.c (.int .i64 40))), none⟩]
abbrev o_port_New_11 : List IOper := [⟨(some 67), .ld (some 6) (.t 1), none⟩,
  ⟨(some 68), .mv (.t 4), none⟩,
  ⟨(some 69), .build (List.replicate 6 (.int .i64 0) ++ [(.ptr none)] ++ [(.sl none 0 0 false)] ++ [(.int .i64 0)] ++ [(.bool false)]) [(0, 6, (.t 67)), (6, 1, (.t 68))], none⟩,
  ⟨(some 70), .box 117 (.t 69), none⟩,
  ⟨(some 2), .mv (.t 70), none⟩,
  ⟨(some 3), .mv (.k (.c (.int .i64 0))), none⟩]
def c_port_New : IC := (.seq (.ops o_port_New_0) (.seq (.ops o_port_New_1) (.seq (.seq (.ops o_port_New_2) (.cond (.t 32) (.seq (.ops o_port_New_3) .ret) .skip)) (.seq (.ops o_port_New_4) (.seq (.seq (.ops o_port_New_5) (.cond (.t 41) (.ops o_port_New_6) (.seq (.ops o_port_New_7) (.cond (.t 52) (.ops o_port_New_8) .skip)))) (.seq (.seq (.ops o_port_New_9) (.cond (.t 66) (.seq (.ops o_port_New_10) .ret) .skip)) (.seq (.ops o_port_New_11) .ret)))))))
def i_port_New : IFn := ⟨71, c_port_New, [(2, none), (3, none)]⟩

-- F 30 (*rota/kern.Kernel).of: bads 0, calls [28]
abbrev o_kern_Kernel_of_0 : List IOper := [⟨(some 4), .new 84 (.agg [(.bool false), (.sl none 0 0 false), (.int .i64 0)]), none⟩]
abbrev o_kern_Kernel_of_1 : List IOper := [⟨(some 5), .mv (.t 0), none⟩,
  ⟨(some 6), .call (.k (.c (.fn fn_kern_Kernel_none [] []))) [(.t 5)], none⟩,
  ⟨(some 7), .mv (.t 6), none⟩,
  ⟨(some 8), .mv (.t 1), some (7, false)⟩,
  ⟨(some 9), .bin .lss (.t 8) (.k (.c (.int .i64 0))), some (7, false)⟩,
  ⟨(some 10), .pick (.t 7) (.k (.c (.bool true))) (.t 9), none⟩,
  ⟨(some 11), .mv (.t 10), none⟩,
  ⟨(some 12), .mv (.t 1), some (11, false)⟩,
  ⟨(some 13), .mv (.t 0), some (11, false)⟩,
  ⟨(some 14), .nilck (.t 13), some (11, false)⟩,
  ⟨(some 15), .fa 4 (.t 14), some (11, false)⟩,
  ⟨(some 16), .ld none (.t 15), some (11, false)⟩,
  ⟨(some 17), .len false (.t 16), some (11, false)⟩,
  ⟨(some 18), .bin .geq (.t 12) (.t 17), some (11, false)⟩,
  ⟨(some 19), .pick (.t 11) (.k (.c (.bool true))) (.t 18), none⟩]
abbrev o_kern_Kernel_of_2 : List IOper := [⟨(some 20), .build [(.bool false), (.sl none 0 0 false), (.int .i64 0)] [], none⟩,
  ⟨none, .st 3 (.t 4) (.t 20), none⟩]
abbrev o_kern_Kernel_of_3 : List IOper := [⟨(some 21), .mv (.t 0), none⟩,
  ⟨(some 22), .nilck (.t 21), none⟩,
  ⟨(some 23), .fa 4 (.t 22), none⟩,
  ⟨(some 24), .ld none (.t 23), none⟩,
  ⟨(some 25), .mv (.t 1), none⟩,
  ⟨(some 26), .iaS 3 (.t 24) (.t 25), none⟩,
  ⟨(some 27), .ld (some 3) (.t 26), none⟩,
  ⟨none, .st 3 (.t 4) (.t 27), none⟩]
def c_kern_Kernel_of : IC := (.seq (.ops o_kern_Kernel_of_0) (.seq (.seq (.ops o_kern_Kernel_of_1) (.cond (.t 19) (.seq (.ops o_kern_Kernel_of_2) .ret) .skip)) (.seq (.ops o_kern_Kernel_of_3) .ret)))
def i_kern_Kernel_of : IFn := ⟨28, c_kern_Kernel_of, [(4, (some (some 3)))]⟩

-- F 31 rota/kern.window: bads 0, calls [55]
abbrev o_kern_window_0 : List IOper := [⟨(some 2), .box 40 (.t 0), none⟩,
  ⟨(some 3), .box 3 (.t 1), none⟩,
  ⟨(some 4), .mv (.k (.c .nilFn)), none⟩]
abbrev o_kern_window_1 : List IOper := [⟨(some 5), .mkfn fn_kern_window_1 [] [(.t 2), (.t 3)], none⟩,
  ⟨(some 4), .mv (.t 5), none⟩]
def c_kern_window : IC := (.seq (.ops o_kern_window_0) (.seq (.ops o_kern_window_1) .ret))
def i_kern_window : IFn := ⟨6, c_kern_window, [(4, none)]⟩

-- F 32 (*rota/kern.part).stopped: bads 0, calls []
abbrev o_kern_part_stopped_0 : List IOper := [⟨(some 2), .mv (.k (.c (.bool false))), none⟩]
abbrev o_kern_part_stopped_1 : List IOper := [⟨(some 3), .mv (.t 0), none⟩,
  ⟨(some 4), .nilck (.t 3), none⟩,
  ⟨(some 5), .fa 2 (.t 4), none⟩,
  ⟨(some 6), .ld none (.t 5), none⟩,
  ⟨(some 7), .bin .geq (.t 6) (.k (.c (.int .i64 3))), none⟩,
  ⟨(some 2), .mv (.t 7), none⟩]
def c_kern_part_stopped : IC := (.seq (.ops o_kern_part_stopped_0) (.seq (.ops o_kern_part_stopped_1) .ret))
def i_kern_part_stopped : IFn := ⟨8, c_kern_part_stopped, [(2, none)]⟩

-- F 33 (*rota/kern.Kernel).do: bads 0, calls [56, 57, 58, 59, 58, 60]
abbrev o_kern_Kernel_do_0 : List IOper := [⟨(some 7), .box 48 (.t 3), none⟩,
  ⟨(some 8), .mv (.k (.c (.sl none 0 0 false))), none⟩,
  ⟨(some 9), .mv (.k (.c (.int .i64 0))), none⟩]
abbrev o_kern_Kernel_do_1 : List IOper := [⟨(some 13), .mv (.t 0), none⟩,
  ⟨(some 14), .nilck (.t 13), none⟩,
  ⟨(some 15), .fa 4 (.t 14), none⟩,
  ⟨(some 16), .ld none (.t 15), none⟩,
  ⟨(some 17), .mv (.t 1), none⟩,
  ⟨(some 18), .iaS 3 (.t 16) (.t 17), none⟩,
  ⟨(some 10), .mv (.t 18), none⟩]
abbrev o_kern_Kernel_do_2 : List IOper := [⟨(some 19), .fa 0 (.t 7), none⟩,
  ⟨(some 20), .ld none (.t 19), none⟩]
abbrev o_kern_Kernel_do_3 : List IOper := [⟨(some 22), .bin .eql (.t 20) (.k (.c (.int .i64 1))), none⟩,
  ⟨(some 21), .mv (.t 22), none⟩]
abbrev o_kern_Kernel_do_4 : List IOper := [⟨(some 23), .mv (.t 10), none⟩,
  ⟨(some 24), .ld (some 5) (.t 7), none⟩,
  ⟨(some 25), .call (.k (.c (.fn fn_kern_part_read [] []))) [(.t 23), (.t 24)], none⟩,
  ⟨(some 26), .ext (.t 25) 0, none⟩,
  ⟨(some 27), .ext (.t 25) 1, none⟩,
  ⟨(some 8), .mv (.t 26), none⟩,
  ⟨(some 9), .mv (.t 27), none⟩]
abbrev o_kern_Kernel_do_5 : List IOper := [⟨(some 29), .bin .eql (.t 20) (.k (.c (.int .i64 2))), none⟩,
  ⟨(some 28), .mv (.t 29), none⟩]
abbrev o_kern_Kernel_do_6 : List IOper := [⟨(some 30), .mv (.t 10), none⟩,
  ⟨(some 31), .ld (some 5) (.t 7), none⟩,
  ⟨(some 32), .call (.k (.c (.fn fn_kern_part_write [] []))) [(.t 30), (.t 31)], none⟩,
  ⟨(some 8), .mv (.k (.c (.sl none 0 0 false))), none⟩,
  ⟨(some 9), .mv (.t 32), none⟩]
abbrev o_kern_Kernel_do_7 : List IOper := [⟨(some 34), .bin .eql (.t 20) (.k (.c (.int .i64 3))), none⟩,
  ⟨(some 33), .mv (.t 34), none⟩]
abbrev o_kern_Kernel_do_8 : List IOper := [⟨(some 35), .mv (.t 0), none⟩,
  ⟨(some 36), .mv (.t 1), none⟩,
  ⟨(some 37), .fa 3 (.t 7), none⟩,
  ⟨(some 38), .ld none (.t 37), none⟩,
  ⟨(some 39), .call (.k (.c (.fn fn_kern_Kernel_own [] []))) [(.t 35), (.t 36), (.t 38)], none⟩,
  ⟨(some 11), .mv (.t 39), none⟩]
abbrev o_kern_Kernel_do_9 : List IOper := [⟨(some 40), .mv (.t 11), none⟩,
  ⟨(some 41), .eq .ptr true (.t 40) (.k (.c (.ptr none))), none⟩]
abbrev o_kern_Kernel_do_10 : List IOper := [⟨(some 42), .mv (.t 11), none⟩,
  ⟨(some 43), .fa 4 (.t 7), none⟩,
  ⟨(some 44), .ld none (.t 43), none⟩,
  ⟨(some 45), .call (.k (.c (.fn fn_port_Box_Send [] []))) [(.t 42), (.t 44)], none⟩,
  ⟨(some 8), .mv (.k (.c (.sl none 0 0 false))), none⟩,
  ⟨(some 9), .mv (.t 45), none⟩]
abbrev o_kern_Kernel_do_11 : List IOper := [⟨(some 8), .mv (.k (.c (.sl none 0 0 false))), none⟩,
  ⟨(some 9), .mv (.k (.c (.int .i64 40))), none⟩]
abbrev o_kern_Kernel_do_12 : List IOper := [⟨(some 47), .bin .eql (.t 20) (.k (.c (.int .i64 4))), none⟩,
  ⟨(some 46), .mv (.t 47), none⟩]
abbrev o_kern_Kernel_do_13 : List IOper := [⟨(some 48), .mv (.t 0), none⟩,
  ⟨(some 49), .mv (.t 1), none⟩,
  ⟨(some 50), .fa 3 (.t 7), none⟩,
  ⟨(some 51), .ld none (.t 50), none⟩,
  ⟨(some 52), .call (.k (.c (.fn fn_kern_Kernel_own [] []))) [(.t 48), (.t 49), (.t 51)], none⟩,
  ⟨(some 12), .mv (.t 52), none⟩]
abbrev o_kern_Kernel_do_14 : List IOper := [⟨(some 53), .mv (.t 12), none⟩,
  ⟨(some 54), .eq .ptr true (.t 53) (.k (.c (.ptr none))), none⟩]
abbrev o_kern_Kernel_do_15 : List IOper := [⟨(some 55), .mv (.t 12), none⟩,
  ⟨(some 56), .mv (.t 2), none⟩,
  ⟨(some 57), .call (.k (.c (.fn fn_port_Box_Recv [] []))) [(.t 55), (.t 56)], none⟩,
  ⟨(some 58), .ext (.t 57) 0, none⟩,
  ⟨(some 59), .ext (.t 57) 1, none⟩,
  ⟨(some 8), .mv (.t 58), none⟩,
  ⟨(some 9), .mv (.t 59), none⟩]
abbrev o_kern_Kernel_do_16 : List IOper := [⟨(some 8), .mv (.k (.c (.sl none 0 0 false))), none⟩,
  ⟨(some 9), .mv (.k (.c (.int .i64 40))), none⟩]
abbrev o_kern_Kernel_do_17 : List IOper := [⟨(some 61), .bin .eql (.t 20) (.k (.c (.int .i64 5))), none⟩,
  ⟨(some 60), .mv (.t 61), none⟩]
abbrev o_kern_Kernel_do_18 : List IOper := [⟨(some 8), .mv (.k (.c (.sl none 0 0 false))), none⟩,
  ⟨(some 9), .mv (.k (.c (.int .i64 53))), none⟩]
abbrev o_kern_Kernel_do_19 : List IOper := [⟨(some 63), .bin .eql (.t 20) (.k (.c (.int .i64 6))), none⟩,
  ⟨(some 62), .mv (.t 63), none⟩]
abbrev o_kern_Kernel_do_20 : List IOper := [⟨(some 8), .mv (.k (.c (.sl none 0 0 false))), none⟩,
  ⟨(some 9), .mv (.k (.c (.int .i64 0))), none⟩]
abbrev o_kern_Kernel_do_21 : List IOper := [⟨(some 8), .mv (.k (.c (.sl none 0 0 false))), none⟩,
  ⟨(some 9), .mv (.k (.c (.int .i64 52))), none⟩]
def c_kern_Kernel_do : IC := (.seq (.ops o_kern_Kernel_do_0) (.seq (.ops o_kern_Kernel_do_1) (.seq (.seq (.ops o_kern_Kernel_do_2) (.block 0 (.seq (.ops o_kern_Kernel_do_3) (.cond (.t 21) (.seq (.ops o_kern_Kernel_do_4) .ret) (.seq (.ops o_kern_Kernel_do_5) (.cond (.t 28) (.seq (.ops o_kern_Kernel_do_6) .ret) (.seq (.ops o_kern_Kernel_do_7) (.cond (.t 33) (.seq (.seq (.ops o_kern_Kernel_do_8) (.seq (.ops o_kern_Kernel_do_9) (.cond (.t 41) (.seq (.ops o_kern_Kernel_do_10) .ret) .skip))) (.seq (.ops o_kern_Kernel_do_11) .ret)) (.seq (.ops o_kern_Kernel_do_12) (.cond (.t 46) (.seq (.seq (.ops o_kern_Kernel_do_13) (.seq (.ops o_kern_Kernel_do_14) (.cond (.t 54) (.seq (.ops o_kern_Kernel_do_15) .ret) .skip))) (.seq (.ops o_kern_Kernel_do_16) .ret)) (.seq (.ops o_kern_Kernel_do_17) (.cond (.t 60) (.seq (.ops o_kern_Kernel_do_18) .ret) (.seq (.ops o_kern_Kernel_do_19) (.cond (.t 62) (.seq (.ops o_kern_Kernel_do_20) .ret) .skip)))))))))))))) (.seq (.ops o_kern_Kernel_do_21) .ret))))
def i_kern_Kernel_do : IFn := ⟨64, c_kern_Kernel_do, [(8, none), (9, none)]⟩

-- F 34 slices.Clone[[]byte,byte]: bads 0, calls []
abbrev o_slices_Clone_byte_byte_0 : List IOper := [⟨(some 2), .mv (.k (.c (.sl none 0 0 false))), none⟩]
abbrev o_slices_Clone_byte_byte_1 : List IOper := [⟨(some 3), .mv (.t 0), none⟩,
  ⟨(some 4), .eq .sl false (.t 3) (.k (.c (.sl none 0 0 false))), none⟩]
abbrev o_slices_Clone_byte_byte_2 : List IOper := [⟨(some 2), .mv (.k (.c (.sl none 0 0 false))), none⟩]
abbrev o_slices_Clone_byte_byte_3 : List IOper := [⟨(some 5), .bsl 5 0 [] [], none⟩,
  ⟨(some 6), .mv (.t 0), none⟩,
  ⟨(some 7), .app 5 1 1 (.t 5) (.t 6), none⟩,
  ⟨(some 2), .mv (.t 7), none⟩]
def c_slices_Clone_byte_byte : IC := (.seq (.ops o_slices_Clone_byte_byte_0) (.seq (.seq (.ops o_slices_Clone_byte_byte_1) (.cond (.t 4) (.seq (.ops o_slices_Clone_byte_byte_2) .ret) .skip)) (.seq (.ops o_slices_Clone_byte_byte_3) .ret)))
def i_slices_Clone_byte_byte : IFn := ⟨8, c_slices_Clone_byte_byte, [(2, none)]⟩

-- F 35 rota/rotaref02.Check: bads 0, calls [61, 62, 63, 64, 65, 66]
abbrev o_rotaref02_Check_0 : List IOper := [⟨(some 1), .box 28 (.t 0), none⟩,
  ⟨(some 2), .mv (.k (.c (.int .i64 0))), none⟩]
abbrev o_rotaref02_Check_1 : List IOper := [⟨(some 3), .ld (some 12) (.t 1), none⟩,
  ⟨(some 4), .call (.k (.c (.fn fn_rotaref02_nodes [] []))) [(.t 3)], none⟩,
  ⟨(some 5), .un .not (.t 4), none⟩]
abbrev o_rotaref02_Check_2 : List IOper := [⟨(some 2), .mv (.k (.c (.int .i64 21))), none⟩]
abbrev o_rotaref02_Check_3 : List IOper := [⟨(some 6), .ld (some 12) (.t 1), none⟩,
  ⟨(some 7), .call (.k (.c (.fn fn_rotaref02_clock [] []))) [(.t 6)], none⟩,
  ⟨(some 8), .un .not (.t 7), none⟩]
abbrev o_rotaref02_Check_4 : List IOper := [⟨(some 2), .mv (.k (.c (.int .i64 22))), none⟩]
abbrev o_rotaref02_Check_5 : List IOper := [⟨(some 9), .ld (some 12) (.t 1), none⟩,
  ⟨(some 10), .call (.k (.c (.fn fn_rotaref02_parts [] []))) [(.t 9)], none⟩,
  ⟨(some 11), .un .not (.t 10), none⟩]
abbrev o_rotaref02_Check_6 : List IOper := [⟨(some 2), .mv (.k (.c (.int .i64 23))), none⟩]
abbrev o_rotaref02_Check_7 : List IOper := [⟨(some 12), .ld (some 12) (.t 1), none⟩,
  ⟨(some 13), .call (.k (.c (.fn fn_rotaref02_windows [] []))) [(.t 12)], none⟩,
  ⟨(some 14), .un .not (.t 13), none⟩]
abbrev o_rotaref02_Check_8 : List IOper := [⟨(some 2), .mv (.k (.c (.int .i64 24))), none⟩]
abbrev o_rotaref02_Check_9 : List IOper := [⟨(some 15), .ld (some 12) (.t 1), none⟩,
  ⟨(some 16), .call (.k (.c (.fn fn_rotaref02_ports [] []))) [(.t 15)], none⟩,
  ⟨(some 17), .un .not (.t 16), none⟩]
abbrev o_rotaref02_Check_10 : List IOper := [⟨(some 2), .mv (.k (.c (.int .i64 25))), none⟩]
abbrev o_rotaref02_Check_11 : List IOper := [⟨(some 18), .ld (some 12) (.t 1), none⟩,
  ⟨(some 19), .call (.k (.c (.fn fn_rotaref02_links [] []))) [(.t 18)], none⟩,
  ⟨(some 20), .un .not (.t 19), none⟩]
abbrev o_rotaref02_Check_12 : List IOper := [⟨(some 2), .mv (.k (.c (.int .i64 26))), none⟩]
abbrev o_rotaref02_Check_13 : List IOper := [⟨(some 2), .mv (.k (.c (.int .i64 0))), none⟩]
def c_rotaref02_Check : IC := (.seq (.ops o_rotaref02_Check_0) (.seq (.seq (.ops o_rotaref02_Check_1) (.cond (.t 5) (.seq (.ops o_rotaref02_Check_2) .ret) .skip)) (.seq (.seq (.ops o_rotaref02_Check_3) (.cond (.t 8) (.seq (.ops o_rotaref02_Check_4) .ret) .skip)) (.seq (.seq (.ops o_rotaref02_Check_5) (.cond (.t 11) (.seq (.ops o_rotaref02_Check_6) .ret) .skip)) (.seq (.seq (.ops o_rotaref02_Check_7) (.cond (.t 14) (.seq (.ops o_rotaref02_Check_8) .ret) .skip)) (.seq (.seq (.ops o_rotaref02_Check_9) (.cond (.t 17) (.seq (.ops o_rotaref02_Check_10) .ret) .skip)) (.seq (.seq (.ops o_rotaref02_Check_11) (.cond (.t 20) (.seq (.ops o_rotaref02_Check_12) .ret) .skip)) (.seq (.ops o_rotaref02_Check_13) .ret))))))))
def i_rotaref02_Check : IFn := ⟨21, c_rotaref02_Check, [(2, none)]⟩

-- F 36 (*rota/rotaref05.Kernel).Restart: bads 0, calls [67]
abbrev o_rotaref05_Kernel_Restart_0 : List IOper := [⟨(some 5), .mv (.t 0), none⟩,
  ⟨(some 6), .build (List.replicate 256 (.int .u8 0)) [], none⟩,
  ⟨(some 7), .nilck (.t 5), none⟩,
  ⟨(some 8), .fa 13 (.t 7), none⟩,
  ⟨none, .st 256 (.t 8) (.t 6), none⟩]
abbrev o_rotaref05_Kernel_Restart_1 : List IOper := [⟨(some 9), .mv (.t 0), none⟩,
  ⟨(some 10), .nilck (.t 9), none⟩,
  ⟨(some 11), .fa 269 (.t 10), none⟩,
  ⟨none, .st 1 (.t 11) (.k (.c (.sl none 0 0 false))), none⟩]
abbrev o_rotaref05_Kernel_Restart_2 : List IOper := [⟨(some 2), .mv (.k (.c (.int .i64 0))), none⟩]
abbrev o_rotaref05_Kernel_Restart_3 : List IOper := [⟨(some 12), .mv (.t 2), none⟩,
  ⟨(some 13), .mv (.t 0), none⟩,
  ⟨(some 14), .nilck (.t 13), none⟩,
  ⟨(some 15), .fa 0 (.t 14), none⟩,
  ⟨(some 16), .fa 10 (.t 15), none⟩,
  ⟨(some 17), .ld none (.t 16), none⟩,
  ⟨(some 18), .len false (.t 17), none⟩,
  ⟨(some 19), .bin .lss (.t 12) (.t 18), none⟩]
abbrev o_rotaref05_Kernel_Restart_4 : List IOper := [⟨(some 23), .mv (.t 0), none⟩,
  ⟨(some 24), .nilck (.t 23), none⟩,
  ⟨(some 25), .fa 0 (.t 24), none⟩,
  ⟨(some 26), .fa 10 (.t 25), none⟩,
  ⟨(some 27), .ld none (.t 26), none⟩,
  ⟨(some 28), .mv (.t 2), none⟩,
  ⟨(some 29), .iaS 6 (.t 27) (.t 28), none⟩,
  ⟨(some 30), .ld (some 6) (.t 29), none⟩,
  ⟨(some 31), .call (.k (.c (.fn fn_rotaref04_New [] []))) [(.t 30)], none⟩,
  ⟨(some 22), .mv (.t 31), none⟩,
  ⟨(some 32), .ext (.t 22) 0, none⟩,
  ⟨(some 33), .ext (.t 22) 1, none⟩,
  ⟨(some 3), .new 125 (.agg (List.replicate 6 (.int .i64 0) ++ [(.sl none 0 0 false)] ++ [(.int .i64 0)] ++ [(.bool false)])), none⟩,
  ⟨none, .st 9 (.t 3) (.t 32), none⟩,
  ⟨(some 4), .mv (.t 33), none⟩]
abbrev o_rotaref05_Kernel_Restart_5 : List IOper := [⟨(some 34), .mv (.t 0), none⟩,
  ⟨(some 35), .mv (.t 0), none⟩,
  ⟨(some 36), .nilck (.t 35), none⟩,
  ⟨(some 37), .fa 269 (.t 36), none⟩,
  ⟨(some 38), .ld none (.t 37), none⟩,
  ⟨(some 39), .ld (some 9) (.t 3), none⟩,
  ⟨(some 40), .bsl 125 1 (List.replicate 6 (.int .i64 0) ++ [(.sl none 0 0 false)] ++ [(.int .i64 0)] ++ [(.bool false)]) [(0, 9, (.t 39))], none⟩,
  ⟨(some 41), .app 125 9 88 (.t 38) (.t 40), none⟩,
  ⟨(some 42), .nilck (.t 34), none⟩,
  ⟨(some 43), .fa 269 (.t 42), none⟩,
  ⟨none, .st 1 (.t 43) (.t 41), none⟩]
abbrev o_rotaref05_Kernel_Restart_6 : List IOper := [⟨(some 20), .mv (.t 2), none⟩,
  ⟨(some 21), .bin .add (.t 20) (.k (.c (.int .i64 1))), none⟩,
  ⟨(some 2), .mv (.t 21), none⟩]
def b_rotaref05_Kernel_Restart_7 : IC := (.seq (.seq (.ops o_rotaref05_Kernel_Restart_3) (.cond (.t 19) .skip (.exit 0))) (.seq (.block 1 (.seq (.ops o_rotaref05_Kernel_Restart_4) (.ops o_rotaref05_Kernel_Restart_5))) (.ops o_rotaref05_Kernel_Restart_6)))
abbrev o_rotaref05_Kernel_Restart_8 : List IOper := [⟨(some 44), .mv (.t 0), none⟩,
  ⟨(some 45), .mv (.t 0), none⟩,
  ⟨(some 46), .nilck (.t 45), none⟩,
  ⟨(some 47), .fa 0 (.t 46), none⟩,
  ⟨(some 48), .fa 8 (.t 47), none⟩,
  ⟨(some 49), .ld none (.t 48), none⟩,
  ⟨(some 50), .len false (.t 49), none⟩,
  ⟨(some 51), .mksl 3 1 8 [(.int .i64 0)] (.t 50) (.t 50), none⟩,
  ⟨(some 52), .nilck (.t 44), none⟩,
  ⟨(some 53), .fa 270 (.t 52), none⟩,
  ⟨none, .st 1 (.t 53) (.t 51), none⟩]
def c_rotaref05_Kernel_Restart : IC := (.seq (.ops o_rotaref05_Kernel_Restart_0) (.seq (.ops o_rotaref05_Kernel_Restart_1) (.seq (.seq (.ops o_rotaref05_Kernel_Restart_2) (.block 0 (.loop b_rotaref05_Kernel_Restart_7))) (.ops o_rotaref05_Kernel_Restart_8))))
def i_rotaref05_Kernel_Restart : IFn := ⟨54, c_rotaref05_Kernel_Restart, []⟩

-- F 37 rota/rotaref02.ints: bads 0, calls []
abbrev o_rotaref02_ints_0 : List IOper := [⟨(some 4), .mv (.k (.c (.bool false))), none⟩]
abbrev o_rotaref02_ints_1 : List IOper := [⟨(some 6), .mv (.t 0), none⟩,
  ⟨(some 7), .len false (.t 6), none⟩,
  ⟨(some 8), .mv (.t 1), none⟩,
  ⟨(some 9), .len false (.t 8), none⟩,
  ⟨(some 10), .bin .neq (.t 7) (.t 9), none⟩]
abbrev o_rotaref02_ints_2 : List IOper := [⟨(some 4), .mv (.k (.c (.bool false))), none⟩]
abbrev o_rotaref02_ints_3 : List IOper := [⟨(some 5), .mv (.k (.c (.int .i64 0))), none⟩]
abbrev o_rotaref02_ints_4 : List IOper := [⟨(some 11), .mv (.t 5), none⟩,
  ⟨(some 12), .mv (.t 0), none⟩,
  ⟨(some 13), .len false (.t 12), none⟩,
  ⟨(some 14), .bin .lss (.t 11) (.t 13), none⟩]
abbrev o_rotaref02_ints_5 : List IOper := [⟨(some 17), .mv (.t 0), none⟩,
  ⟨(some 18), .mv (.t 5), none⟩,
  ⟨(some 19), .iaS 1 (.t 17) (.t 18), none⟩,
  ⟨(some 20), .ld none (.t 19), none⟩,
  ⟨(some 21), .mv (.t 1), none⟩,
  ⟨(some 22), .mv (.t 5), none⟩,
  ⟨(some 23), .iaS 1 (.t 21) (.t 22), none⟩,
  ⟨(some 24), .ld none (.t 23), none⟩,
  ⟨(some 25), .bin .neq (.t 20) (.t 24), none⟩]
abbrev o_rotaref02_ints_6 : List IOper := [⟨(some 4), .mv (.k (.c (.bool false))), none⟩]
abbrev o_rotaref02_ints_7 : List IOper := [⟨(some 15), .mv (.t 5), none⟩,
  ⟨(some 16), .bin .add (.t 15) (.k (.c (.int .i64 1))), none⟩,
  ⟨(some 5), .mv (.t 16), none⟩]
def b_rotaref02_ints_8 : IC := (.seq (.seq (.ops o_rotaref02_ints_4) (.cond (.t 14) .skip (.exit 0))) (.seq (.block 1 (.seq (.ops o_rotaref02_ints_5) (.cond (.t 25) (.seq (.ops o_rotaref02_ints_6) .ret) .skip))) (.ops o_rotaref02_ints_7)))
abbrev o_rotaref02_ints_9 : List IOper := [⟨(some 4), .mv (.k (.c (.bool true))), none⟩]
def c_rotaref02_ints : IC := (.seq (.ops o_rotaref02_ints_0) (.seq (.seq (.ops o_rotaref02_ints_1) (.cond (.t 10) (.seq (.ops o_rotaref02_ints_2) .ret) .skip)) (.seq (.seq (.ops o_rotaref02_ints_3) (.block 0 (.loop b_rotaref02_ints_8))) (.seq (.ops o_rotaref02_ints_9) .ret))))
def i_rotaref02_ints : IFn := ⟨26, c_rotaref02_ints, [(4, none)]⟩

-- F 38 rota/rotalaw05.twin: bads 0, calls [43]
abbrev o_rotalaw05_twin_0 : List IOper := [⟨(some 2), .mv (.k (.c (.sl none 0 0 false))), none⟩]
abbrev o_rotalaw05_twin_1 : List IOper := [⟨(some 3), .mv (.k (.c (.sl none 0 0 false))), none⟩]
abbrev o_rotalaw05_twin_2 : List IOper := [⟨(some 6), .mv (.t 0), none⟩,
  ⟨(some 7), .len false (.t 6), none⟩,
  ⟨(some 8), .mv (.k (.c (.int .i64 0))), none⟩]
abbrev o_rotalaw05_twin_3 : List IOper := [⟨(some 9), .bin .lss (.t 8) (.t 7), none⟩]
abbrev o_rotalaw05_twin_4 : List IOper := [⟨(some 10), .mv (.t 8), none⟩,
  ⟨(some 4), .mv (.t 10), none⟩]
abbrev o_rotalaw05_twin_5 : List IOper := [⟨(some 11), .mv (.t 0), none⟩,
  ⟨(some 12), .mv (.t 4), none⟩,
  ⟨(some 13), .iaS 5 (.t 11) (.t 12), none⟩,
  ⟨(some 14), .ld (some 5) (.t 13), none⟩,
  ⟨(some 5), .new 48 (.agg [(.int .i64 0), (.int .i64 0), (.int .u8 0), (.int .i64 0), (.sl none 0 0 false)]), none⟩,
  ⟨none, .st 5 (.t 5) (.t 14), none⟩]
abbrev o_rotalaw05_twin_6 : List IOper := [⟨(some 15), .mv (.t 0), none⟩,
  ⟨(some 16), .mv (.t 4), none⟩,
  ⟨(some 17), .iaS 5 (.t 15) (.t 16), none⟩,
  ⟨(some 18), .fa 4 (.t 17), none⟩,
  ⟨(some 19), .ld none (.t 18), none⟩,
  ⟨(some 20), .call (.k (.c (.fn fn_rotaref04_Twin [] []))) [(.t 19)], none⟩,
  ⟨(some 21), .fa 4 (.t 5), none⟩,
  ⟨none, .st 1 (.t 21) (.t 20), none⟩]
abbrev o_rotalaw05_twin_7 : List IOper := [⟨(some 22), .mv (.t 3), none⟩,
  ⟨(some 23), .ld (some 5) (.t 5), none⟩,
  ⟨(some 24), .bsl 48 1 [(.int .i64 0), (.int .i64 0), (.int .u8 0), (.int .i64 0), (.sl none 0 0 false)] [(0, 5, (.t 23))], none⟩,
  ⟨(some 25), .app 48 5 56 (.t 22) (.t 24), none⟩,
  ⟨(some 3), .mv (.t 25), none⟩]
abbrev o_rotalaw05_twin_8 : List IOper := [⟨(some 26), .bin .add (.t 8) (.k (.c (.int .i64 1))), none⟩,
  ⟨(some 8), .mv (.t 26), none⟩]
def b_rotalaw05_twin_9 : IC := (.seq (.ops o_rotalaw05_twin_3) (.seq (.cond (.t 9) .skip (.exit 0)) (.seq (.block 1 (.seq (.ops o_rotalaw05_twin_4) (.seq (.ops o_rotalaw05_twin_5) (.seq (.ops o_rotalaw05_twin_6) (.ops o_rotalaw05_twin_7))))) (.ops o_rotalaw05_twin_8))))
abbrev o_rotalaw05_twin_10 : List IOper := [⟨(some 27), .mv (.t 3), none⟩,
  ⟨(some 28), .build [(.int .i64 0), (.int .i64 0), (.int .u8 0), (.int .i64 0), (.sl none 0 0 false)] [(0, 1, (.k (.c (.int .i64 77))))], none⟩,
  ⟨(some 29), .bsl 48 1 [(.int .i64 0), (.int .i64 0), (.int .u8 0), (.int .i64 0), (.sl none 0 0 false)] [(0, 5, (.t 28))], none⟩,
  ⟨(some 30), .app 48 5 56 (.t 27) (.t 29), none⟩,
  ⟨(some 2), .mv (.t 30), none⟩]
def c_rotalaw05_twin : IC := (.seq (.ops o_rotalaw05_twin_0) (.seq (.ops o_rotalaw05_twin_1) (.seq (.seq (.ops o_rotalaw05_twin_2) (.block 0 (.loop b_rotalaw05_twin_9))) (.seq (.ops o_rotalaw05_twin_10) .ret))))
def i_rotalaw05_twin : IFn := ⟨31, c_rotalaw05_twin, [(2, none)]⟩

-- F 39 (*rota/rotaref05.Kernel).Run: bads 0, calls [68, 69]
abbrev o_rotaref05_Kernel_Run_0 : List IOper := [⟨(some 8), .mv (.k (.c (.sl none 0 0 false))), none⟩]
abbrev o_rotaref05_Kernel_Run_1 : List IOper := [⟨(some 9), .mv (.k (.c (.sl none 0 0 false))), none⟩]
abbrev o_rotaref05_Kernel_Run_2 : List IOper := [⟨(some 14), .mv (.t 0), none⟩,
  ⟨(some 15), .mv (.t 1), none⟩,
  ⟨(some 16), .call (.k (.c (.fn fn_rotaref05_Kernel_Part [] []))) [(.t 14), (.t 15)], none⟩,
  ⟨(some 10), .mv (.t 16), none⟩]
abbrev o_rotaref05_Kernel_Run_3 : List IOper := [⟨(some 17), .mv (.t 10), none⟩,
  ⟨(some 18), .un .not (.t 17), none⟩,
  ⟨(some 19), .mv (.t 18), none⟩,
  ⟨(some 20), .mv (.t 2), some (19, false)⟩,
  ⟨(some 21), .bin .lss (.t 20) (.k (.c (.int .i64 0))), some (19, false)⟩,
  ⟨(some 22), .pick (.t 19) (.k (.c (.bool true))) (.t 21), none⟩]
abbrev o_rotaref05_Kernel_Run_4 : List IOper := [⟨(some 23), .mv (.t 9), none⟩,
  ⟨(some 8), .mv (.t 23), none⟩]
abbrev o_rotaref05_Kernel_Run_5 : List IOper := [⟨(some 11), .mv (.k (.c (.int .i64 0))), none⟩]
abbrev o_rotaref05_Kernel_Run_6 : List IOper := [⟨(some 24), .mv (.t 11), none⟩,
  ⟨(some 25), .mv (.t 3), none⟩,
  ⟨(some 26), .len false (.t 25), none⟩,
  ⟨(some 27), .bin .lss (.t 24) (.t 26), none⟩,
  ⟨(some 28), .mv (.t 27), none⟩,
  ⟨(some 29), .mv (.t 11), some (28, true)⟩,
  ⟨(some 30), .mv (.t 0), some (28, true)⟩,
  ⟨(some 31), .nilck (.t 30), some (28, true)⟩,
  ⟨(some 32), .fa 0 (.t 31), some (28, true)⟩,
  ⟨(some 33), .fa 7 (.t 32), some (28, true)⟩,
  ⟨(some 34), .ld none (.t 33), some (28, true)⟩,
  ⟨(some 35), .bin .lss (.t 29) (.t 34), some (28, true)⟩,
  ⟨(some 36), .pick (.t 28) (.t 35) (.k (.c (.bool false))), none⟩]
abbrev o_rotaref05_Kernel_Run_7 : List IOper := [⟨(some 40), .mv (.t 0), none⟩,
  ⟨(some 41), .mv (.t 1), none⟩,
  ⟨(some 42), .mv (.t 2), none⟩,
  ⟨(some 43), .mv (.t 3), none⟩,
  ⟨(some 44), .mv (.t 11), none⟩,
  ⟨(some 45), .iaS 5 (.t 43) (.t 44), none⟩,
  ⟨(some 46), .ld (some 5) (.t 45), none⟩,
  ⟨(some 47), .call (.k (.c (.fn fn_rotaref05_Kernel_one [] []))) [(.t 40), (.t 41), (.t 42), (.t 46)], none⟩,
  ⟨(some 39), .mv (.t 47), none⟩,
  ⟨(some 48), .ext (.t 39) 0, none⟩,
  ⟨(some 49), .ext (.t 39) 1, none⟩,
  ⟨(some 12), .mv (.t 48), none⟩,
  ⟨(some 13), .mv (.t 49), none⟩]
abbrev o_rotaref05_Kernel_Run_8 : List IOper := [⟨(some 50), .mv (.t 13), none⟩,
  ⟨(some 51), .bin .eql (.t 50) (.k (.c (.int .i64 50))), none⟩,
  ⟨(some 52), .mv (.t 51), none⟩,
  ⟨(some 53), .mv (.t 13), some (52, false)⟩,
  ⟨(some 54), .bin .eql (.t 53) (.k (.c (.int .i64 53))), some (52, false)⟩,
  ⟨(some 55), .pick (.t 52) (.k (.c (.bool true))) (.t 54), none⟩]
abbrev o_rotaref05_Kernel_Run_9 : List IOper := [⟨(some 56), .mv (.t 0), none⟩,
  ⟨(some 57), .nilck (.t 56), none⟩,
  ⟨(some 58), .fa 270 (.t 57), none⟩,
  ⟨(some 59), .ld none (.t 58), none⟩,
  ⟨(some 60), .mv (.t 1), none⟩,
  ⟨(some 61), .iaS 1 (.t 59) (.t 60), none⟩,
  ⟨(some 62), .ld none (.t 61), none⟩,
  ⟨(some 63), .bin .add (.t 62) (.k (.c (.int .i64 1))), none⟩,
  ⟨(some 64), .iaS 1 (.t 59) (.t 60), none⟩,
  ⟨none, .st 1 (.t 64) (.t 63), none⟩]
abbrev o_rotaref05_Kernel_Run_10 : List IOper := [⟨(some 65), .mv (.t 9), none⟩,
  ⟨(some 66), .mv (.t 12), none⟩,
  ⟨(some 67), .mv (.t 13), none⟩,
  ⟨(some 68), .build [(.sl none 0 0 false), (.int .i64 0)] [(0, 1, (.t 66)), (1, 1, (.t 67))], none⟩,
  ⟨(some 69), .bsl 131 1 [(.sl none 0 0 false), (.int .i64 0)] [(0, 2, (.t 68))], none⟩,
  ⟨(some 70), .app 131 2 32 (.t 65) (.t 69), none⟩,
  ⟨(some 9), .mv (.t 70), none⟩]
abbrev o_rotaref05_Kernel_Run_11 : List IOper := [⟨(some 71), .mv (.t 3), none⟩,
  ⟨(some 72), .mv (.t 11), none⟩,
  ⟨(some 73), .iaS 5 (.t 71) (.t 72), none⟩,
  ⟨(some 74), .fa 0 (.t 73), none⟩,
  ⟨(some 75), .ld none (.t 74), none⟩,
  ⟨(some 76), .bin .eql (.t 75) (.k (.c (.int .i64 6))), none⟩]
abbrev o_rotaref05_Kernel_Run_12 : List IOper := [⟨(some 37), .mv (.t 11), none⟩,
  ⟨(some 38), .bin .add (.t 37) (.k (.c (.int .i64 1))), none⟩,
  ⟨(some 11), .mv (.t 38), none⟩]
def b_rotaref05_Kernel_Run_13 : IC := (.seq (.seq (.ops o_rotaref05_Kernel_Run_6) (.cond (.t 36) .skip (.exit 0))) (.seq (.block 1 (.seq (.ops o_rotaref05_Kernel_Run_7) (.seq (.seq (.ops o_rotaref05_Kernel_Run_8) (.cond (.t 55) (.ops o_rotaref05_Kernel_Run_9) .skip)) (.seq (.ops o_rotaref05_Kernel_Run_10) (.seq (.ops o_rotaref05_Kernel_Run_11) (.cond (.t 76) (.exit 0) .skip)))))) (.ops o_rotaref05_Kernel_Run_12)))
abbrev o_rotaref05_Kernel_Run_14 : List IOper := [⟨(some 77), .mv (.t 9), none⟩,
  ⟨(some 8), .mv (.t 77), none⟩]
def c_rotaref05_Kernel_Run : IC := (.seq (.ops o_rotaref05_Kernel_Run_0) (.seq (.ops o_rotaref05_Kernel_Run_1) (.seq (.ops o_rotaref05_Kernel_Run_2) (.seq (.seq (.ops o_rotaref05_Kernel_Run_3) (.cond (.t 22) (.seq (.ops o_rotaref05_Kernel_Run_4) .ret) .skip)) (.seq (.seq (.ops o_rotaref05_Kernel_Run_5) (.block 0 (.loop b_rotaref05_Kernel_Run_13))) (.seq (.ops o_rotaref05_Kernel_Run_14) .ret))))))
def i_rotaref05_Kernel_Run : IFn := ⟨78, c_rotaref05_Kernel_Run, [(8, none)]⟩

-- F 40 rota/rotalaw05.results: bads 0, calls []
abbrev o_rotalaw05_results_0 : List IOper := [⟨(some 6), .mv (.k (.c (.bool false))), none⟩]
abbrev o_rotalaw05_results_1 : List IOper := [⟨(some 9), .mv (.t 0), none⟩,
  ⟨(some 10), .len false (.t 9), none⟩,
  ⟨(some 11), .mv (.t 1), none⟩,
  ⟨(some 12), .len false (.t 11), none⟩,
  ⟨(some 13), .bin .neq (.t 10) (.t 12), none⟩]
abbrev o_rotalaw05_results_2 : List IOper := [⟨(some 6), .mv (.k (.c (.bool false))), none⟩]
abbrev o_rotalaw05_results_3 : List IOper := [⟨(some 14), .mv (.t 0), none⟩,
  ⟨(some 15), .len false (.t 14), none⟩,
  ⟨(some 16), .mv (.k (.c (.int .i64 0))), none⟩]
abbrev o_rotalaw05_results_4 : List IOper := [⟨(some 17), .bin .lss (.t 16) (.t 15), none⟩]
abbrev o_rotalaw05_results_5 : List IOper := [⟨(some 18), .mv (.t 16), none⟩,
  ⟨(some 7), .mv (.t 18), none⟩]
abbrev o_rotalaw05_results_6 : List IOper := [⟨(some 19), .mv (.t 0), none⟩,
  ⟨(some 20), .mv (.t 7), none⟩,
  ⟨(some 21), .iaS 3 (.t 19) (.t 20), none⟩,
  ⟨(some 22), .fa 0 (.t 21), none⟩,
  ⟨(some 23), .ld none (.t 22), none⟩,
  ⟨(some 24), .mv (.t 2), none⟩,
  ⟨(some 25), .bin .neq (.t 23) (.t 24), none⟩,
  ⟨(some 26), .mv (.t 25), none⟩,
  ⟨(some 27), .mv (.t 0), some (26, false)⟩,
  ⟨(some 28), .mv (.t 7), some (26, false)⟩,
  ⟨(some 29), .iaS 3 (.t 27) (.t 28), some (26, false)⟩,
  ⟨(some 30), .fa 1 (.t 29), some (26, false)⟩,
  ⟨(some 31), .ld none (.t 30), some (26, false)⟩,
  ⟨(some 32), .mv (.t 1), some (26, false)⟩,
  ⟨(some 33), .mv (.t 7), some (26, false)⟩,
  ⟨(some 34), .iaS 2 (.t 32) (.t 33), some (26, false)⟩,
  ⟨(some 35), .fa 1 (.t 34), some (26, false)⟩,
  ⟨(some 36), .ld none (.t 35), some (26, false)⟩,
  ⟨(some 37), .bin .neq (.t 31) (.t 36), some (26, false)⟩,
  ⟨(some 38), .pick (.t 26) (.k (.c (.bool true))) (.t 37), none⟩,
  ⟨(some 39), .mv (.t 38), none⟩,
  ⟨(some 40), .mv (.t 0), some (39, false)⟩,
  ⟨(some 41), .mv (.t 7), some (39, false)⟩,
  ⟨(some 42), .iaS 3 (.t 40) (.t 41), some (39, false)⟩,
  ⟨(some 43), .fa 2 (.t 42), some (39, false)⟩,
  ⟨(some 44), .ld none (.t 43), some (39, false)⟩,
  ⟨(some 45), .b2s (.t 44), some (39, false)⟩,
  ⟨(some 46), .mv (.t 1), some (39, false)⟩,
  ⟨(some 47), .mv (.t 7), some (39, false)⟩,
  ⟨(some 48), .iaS 2 (.t 46) (.t 47), some (39, false)⟩,
  ⟨(some 49), .fa 0 (.t 48), some (39, false)⟩,
  ⟨(some 50), .ld none (.t 49), some (39, false)⟩,
  ⟨(some 51), .b2s (.t 50), some (39, false)⟩,
  ⟨(some 52), .bin .neq (.t 45) (.t 51), some (39, false)⟩,
  ⟨(some 53), .pick (.t 39) (.k (.c (.bool true))) (.t 52), none⟩]
abbrev o_rotalaw05_results_7 : List IOper := [⟨(some 6), .mv (.k (.c (.bool false))), none⟩]
abbrev o_rotalaw05_results_8 : List IOper := [⟨(some 54), .mv (.t 0), none⟩,
  ⟨(some 55), .mv (.t 7), none⟩,
  ⟨(some 56), .iaS 3 (.t 54) (.t 55), none⟩,
  ⟨(some 57), .fa 2 (.t 56), none⟩,
  ⟨(some 58), .ld none (.t 57), none⟩,
  ⟨(some 59), .len false (.t 58), none⟩,
  ⟨(some 60), .mv (.k (.c (.int .i64 0))), none⟩]
abbrev o_rotalaw05_results_9 : List IOper := [⟨(some 61), .bin .lss (.t 60) (.t 59), none⟩]
abbrev o_rotalaw05_results_10 : List IOper := [⟨(some 62), .mv (.t 60), none⟩,
  ⟨(some 8), .mv (.t 62), none⟩]
abbrev o_rotalaw05_results_11 : List IOper := [⟨(some 63), .mv (.t 0), none⟩,
  ⟨(some 64), .mv (.t 7), none⟩,
  ⟨(some 65), .iaS 3 (.t 63) (.t 64), none⟩,
  ⟨(some 66), .fa 2 (.t 65), none⟩,
  ⟨(some 67), .ld none (.t 66), none⟩,
  ⟨(some 68), .mv (.t 8), none⟩,
  ⟨(some 69), .mv (.t 0), none⟩,
  ⟨(some 70), .mv (.t 7), none⟩,
  ⟨(some 71), .iaS 3 (.t 69) (.t 70), none⟩,
  ⟨(some 72), .fa 2 (.t 71), none⟩,
  ⟨(some 73), .ld none (.t 72), none⟩,
  ⟨(some 74), .mv (.t 8), none⟩,
  ⟨(some 75), .iaS 1 (.t 73) (.t 74), none⟩,
  ⟨(some 76), .ld none (.t 75), none⟩,
  ⟨(some 77), .bin .add (.t 76) (.k (.c (.int .u8 1))), none⟩,
  ⟨(some 78), .iaS 1 (.t 67) (.t 68), none⟩,
  ⟨none, .st 1 (.t 78) (.t 77), none⟩]
abbrev o_rotalaw05_results_12 : List IOper := [⟨(some 79), .bin .add (.t 60) (.k (.c (.int .i64 1))), none⟩,
  ⟨(some 60), .mv (.t 79), none⟩]
def b_rotalaw05_results_13 : IC := (.seq (.ops o_rotalaw05_results_9) (.seq (.cond (.t 61) .skip (.exit 2)) (.seq (.block 3 (.seq (.ops o_rotalaw05_results_10) (.ops o_rotalaw05_results_11))) (.ops o_rotalaw05_results_12))))
abbrev o_rotalaw05_results_14 : List IOper := [⟨(some 80), .mv (.t 0), none⟩,
  ⟨(some 81), .mv (.t 7), none⟩,
  ⟨(some 82), .iaS 3 (.t 80) (.t 81), none⟩,
  ⟨(some 83), .fa 1 (.t 82), none⟩,
  ⟨none, .st 1 (.t 83) (.k (.c (.int .i64 99))), none⟩]
abbrev o_rotalaw05_results_15 : List IOper := [⟨(some 84), .bin .add (.t 16) (.k (.c (.int .i64 1))), none⟩,
  ⟨(some 16), .mv (.t 84), none⟩]
def b_rotalaw05_results_16 : IC := (.seq (.ops o_rotalaw05_results_4) (.seq (.cond (.t 17) .skip (.exit 0)) (.seq (.block 1 (.seq (.ops o_rotalaw05_results_5) (.seq (.seq (.ops o_rotalaw05_results_6) (.cond (.t 53) (.seq (.ops o_rotalaw05_results_7) .ret) .skip)) (.seq (.seq (.ops o_rotalaw05_results_8) (.block 2 (.loop b_rotalaw05_results_13))) (.ops o_rotalaw05_results_14))))) (.ops o_rotalaw05_results_15))))
abbrev o_rotalaw05_results_17 : List IOper := [⟨(some 6), .mv (.k (.c (.bool true))), none⟩]
def c_rotalaw05_results : IC := (.seq (.ops o_rotalaw05_results_0) (.seq (.seq (.ops o_rotalaw05_results_1) (.cond (.t 13) (.seq (.ops o_rotalaw05_results_2) .ret) .skip)) (.seq (.seq (.ops o_rotalaw05_results_3) (.block 0 (.loop b_rotalaw05_results_16))) (.seq (.ops o_rotalaw05_results_17) .ret))))
def i_rotalaw05_results : IFn := ⟨85, c_rotalaw05_results, [(6, none)]⟩

end Go.Proofs.Ytikbahcddohijaa.AM.F05
