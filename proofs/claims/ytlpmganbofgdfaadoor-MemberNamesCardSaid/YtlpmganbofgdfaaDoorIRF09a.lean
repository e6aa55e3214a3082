/- The functions of these laws as the abstract machine's code, printed by a program of this claim's. -/
import Derived.Test.YtlpmganbofgdfaaDoorA3
set_option linter.unusedVariables false
set_option linter.unusedSimpArgs false
set_option linter.unusedSectionVars false
namespace Go.Proofs.YtlpmganbofgdfaaDoor.AM.F09
open Go Go.Proofs.YtlpmganbofgdfaaDoor.AM
abbrev fn_rotalaw09_MemberAgree : Nat := 3
abbrev fn_rotalaw09_MemberPlays : Nat := 4
abbrev fn_rotalaw09_MemberHeals : Nat := 5
abbrev fn_rotalaw09_MemberStarts : Nat := 6
abbrev fn_rotalaw09_MemberNames : Nat := 7
abbrev fn_rotalaw09_alive : Nat := 8
abbrev fn_rotalaw09_made : Nat := 9
abbrev fn_member_Member_Vector : Nat := 10
abbrev fn_rotalaw09_ghost_event : Nat := 11
abbrev fn_rotalaw09_group_step : Nat := 12
abbrev fn_rotalaw09_ghost_agrees : Nat := 13
abbrev fn_member_New : Nat := 14
abbrev fn_rotaref09_New : Nat := 15
abbrev fn_rotalaw09_step : Nat := 16
abbrev fn_rotalaw09_same : Nat := 17
abbrev fn_member_Member_Start : Nat := 18
abbrev fn_member_Member_State : Nat := 19
abbrev fn_member_Member_Slot : Nat := 20
abbrev fn_rotalaw07_Four : Nat := 21
abbrev fn_member_Member_Join : Nat := 22
abbrev fn_member_Member_Turn : Nat := 23
abbrev fn_member_Member_Next : Nat := 24
abbrev fn_member_Member_Hear : Nat := 25
abbrev fn_member_Member_Calm : Nat := 26
abbrev fn_frame_Encode : Nat := 27
abbrev fn_member_Member_Counts : Nat := 28
abbrev fn_member_Member_none : Nat := 29
abbrev fn_rotalaw09_count : Nat := 30
abbrev fn_config_Check : Nat := 31
abbrev fn_rotaref02_Check : Nat := 32
abbrev fn_rotaref09_Member_Start : Nat := 33
abbrev fn_rotaref09_Member_Join : Nat := 34
abbrev fn_rotaref09_Member_Turn : Nat := 35
abbrev fn_rotaref09_Member_Hear : Nat := 36
abbrev fn_rotaref09_Member_Next : Nat := 37
abbrev fn_rotaref09_Member_Vector : Nat := 38
abbrev fn_member_Member_stop : Nat := 39
abbrev fn_member_Member_all : Nat := 40
abbrev fn_member_Member_anew : Nat := 41
abbrev fn_member_Member_turnActive : Nat := 42
abbrev fn_member_Member_turnListen : Nat := 43
abbrev fn_member_Member_astray : Nat := 44
abbrev fn_member_Member_find : Nat := 45
abbrev fn_member_Member_turn : Nat := 46
abbrev fn_member_Member_judge : Nat := 47
abbrev fn_frame_state : Nat := 48
abbrev fn_sum_Sum : Nat := 49
abbrev fn_config_fine : Nat := 50
abbrev fn_rotaref02_nodes : Nat := 51
abbrev fn_rotaref02_clock : Nat := 52
abbrev fn_rotaref02_parts : Nat := 53
abbrev fn_rotaref02_windows : Nat := 54
abbrev fn_rotaref02_ports : Nat := 55
abbrev fn_rotaref02_links : Nat := 56
abbrev fn_rotaref09_Member_stop : Nat := 57
abbrev fn_rotaref09_Member_anew : Nat := 58
abbrev fn_rotaref09_Member_turn : Nat := 59
abbrev fn_rotaref09_Member_freeze : Nat := 60
abbrev fn_rotaref09_Member_find : Nat := 61
abbrev fn_rotaref09_Member_astray : Nat := 62
abbrev fn_rotaref03_Accept : Nat := 63
abbrev fn_member_Member_bits : Nat := 64
abbrev fn_member_Member_freeze : Nat := 65
abbrev fn_frame_Decode : Nat := 66
abbrev fn_frame_Accept : Nat := 67
abbrev fn_sum_More : Nat := 68
abbrev fn_config_nodes : Nat := 69
abbrev fn_config_clocks : Nat := 70
abbrev fn_config_parts : Nat := 71
abbrev fn_config_windows : Nat := 72
abbrev fn_config_ports : Nat := 73
abbrev fn_config_links : Nat := 74
abbrev fn_rotaref02_count : Nat := 75
abbrev fn_rotaref02_Precision : Nat := 76
abbrev fn_rotaref02_meet : Nat := 77
abbrev fn_rotaref02_Alone : Nat := 78
abbrev fn_rotaref02_is : Nat := 79
abbrev fn_rotaref09_Member_nobody : Nat := 80
abbrev fn_rotaref03_Decode : Nat := 81
abbrev fn_rotaref09_Parted : Nat := 82
abbrev fn_rotaref03_told : Nat := 83
abbrev fn_rotaref03_State : Nat := 84
abbrev fn_rotaref03_sealed : Nat := 85
abbrev fn_member_Member_bits_1 : Nat := 86
abbrev fn_frame_read : Nat := 87
abbrev fn_frame_checked : Nat := 88
abbrev fn_config_within : Nat := 89
abbrev fn_slices_Contains_int_int : Nat := 90
abbrev fn_config_Precision : Nat := 91
abbrev fn_config_pairs : Nat := 92
abbrev fn_config_meet : Nat := 93
abbrev fn_config_port : Nat := 94
abbrev fn_rotaref01_Sum : Nat := 95
abbrev fn_frame_number : Nat := 96
abbrev fn_slices_Index_int_int : Nat := 97
abbrev fn_config_pairs_1 : Nat := 98
abbrev fn_rotaref01_More : Nat := 99
abbrev fn_rotaref01_steps : Nat := 100

-- F 3 rota/rotalaw09.MemberAgree: bads 0, calls [8, 9, 10, 11, 12, 13]
abbrev o_rotalaw09_MemberAgree_0 : List IOper := [⟨(some 2), .box 28 (.t 0), none⟩,
  ⟨(some 4), .mv (.k (.c (.bool false))), none⟩]
abbrev o_rotalaw09_MemberAgree_1 : List IOper := [⟨(some 12), .call (.k (.c (.fn fn_rotalaw09_alive [] []))) [], none⟩,
  ⟨(some 5), .mv (.t 12), none⟩]
abbrev o_rotalaw09_MemberAgree_2 : List IOper := [⟨(some 14), .ld (some 12) (.t 2), none⟩,
  ⟨(some 15), .call (.k (.c (.fn fn_rotalaw09_made [] []))) [(.t 14), (.k (.c (.bool true)))], none⟩,
  ⟨(some 13), .mv (.t 15), none⟩,
  ⟨(some 16), .ext (.t 13) 0, none⟩,
  ⟨(some 17), .ext (.t 13) 1, none⟩,
  ⟨(some 6), .mv (.t 16), none⟩,
  ⟨(some 7), .mv (.t 17), none⟩]
abbrev o_rotalaw09_MemberAgree_3 : List IOper := [⟨(some 18), .mv (.t 7), none⟩,
  ⟨(some 19), .un .not (.t 18), none⟩,
  ⟨(some 20), .mv (.t 19), none⟩,
  ⟨(some 21), .mv (.t 1), some (20, false)⟩,
  ⟨(some 22), .len false (.t 21), some (20, false)⟩,
  ⟨(some 23), .bin .gtr (.t 22) (.k (.c (.int .i64 400))), some (20, false)⟩,
  ⟨(some 24), .pick (.t 20) (.k (.c (.bool true))) (.t 23), none⟩,
  ⟨(some 25), .mv (.t 24), none⟩,
  ⟨(some 26), .mv (.t 5), some (25, false)⟩,
  ⟨(some 27), .un .not (.t 26), some (25, false)⟩,
  ⟨(some 28), .pick (.t 25) (.k (.c (.bool true))) (.t 27), none⟩]
abbrev o_rotalaw09_MemberAgree_4 : List IOper := [⟨(some 29), .mv (.t 5), none⟩,
  ⟨(some 4), .mv (.t 29), none⟩]
abbrev o_rotalaw09_MemberAgree_5 : List IOper := [⟨(some 30), .mv (.t 6), none⟩,
  ⟨(some 31), .nilck (.t 30), none⟩,
  ⟨(some 32), .fa 12 (.t 31), none⟩,
  ⟨(some 33), .ld none (.t 32), none⟩,
  ⟨(some 34), .iaS 1 (.t 33) (.k (.c (.int .i64 0))), none⟩,
  ⟨(some 35), .ld none (.t 34), none⟩,
  ⟨(some 36), .call (.k (.c (.fn fn_member_Member_Vector [] []))) [(.t 35)], none⟩,
  ⟨(some 37), .build [(.int .u16 0), (.int .i64 0), (.int .u16 0)] [(0, 1, (.t 36)), (1, 1, (.k (.c (.int .i64 (-100)))))], none⟩,
  ⟨(some 38), .box 42 (.t 37), none⟩,
  ⟨(some 8), .mv (.t 38), none⟩]
abbrev o_rotalaw09_MemberAgree_6 : List IOper := [⟨(some 9), .mv (.k (.c (.int .i64 0))), none⟩]
abbrev o_rotalaw09_MemberAgree_7 : List IOper := [⟨(some 39), .mv (.t 9), none⟩,
  ⟨(some 40), .mv (.t 1), none⟩,
  ⟨(some 41), .len false (.t 40), none⟩,
  ⟨(some 42), .bin .lss (.t 39) (.t 41), none⟩]
abbrev o_rotalaw09_MemberAgree_8 : List IOper := [⟨(some 45), .mv (.t 8), none⟩,
  ⟨(some 46), .mv (.t 6), none⟩,
  ⟨(some 47), .mv (.t 1), none⟩,
  ⟨(some 48), .mv (.t 9), none⟩,
  ⟨(some 49), .iaS 1 (.t 47) (.t 48), none⟩,
  ⟨(some 50), .ld none (.t 49), none⟩,
  ⟨(some 51), .call (.k (.c (.fn fn_rotalaw09_ghost_event [] []))) [(.t 45), (.t 46), (.t 50)], none⟩,
  ⟨(some 10), .mv (.t 51), none⟩]
abbrev o_rotalaw09_MemberAgree_9 : List IOper := [⟨(some 52), .mv (.t 6), none⟩,
  ⟨(some 53), .mv (.t 10), none⟩,
  ⟨(some 54), .call (.k (.c (.fn fn_rotalaw09_group_step [] []))) [(.t 52), (.t 53)], none⟩]
abbrev o_rotalaw09_MemberAgree_10 : List IOper := [⟨(some 55), .mv (.t 8), none⟩,
  ⟨(some 56), .mv (.t 6), none⟩,
  ⟨(some 57), .call (.k (.c (.fn fn_rotalaw09_ghost_agrees [] []))) [(.t 55), (.t 56)], none⟩,
  ⟨(some 11), .mv (.t 57), none⟩]
abbrev o_rotalaw09_MemberAgree_11 : List IOper := [⟨(some 58), .mv (.t 11), none⟩,
  ⟨(some 59), .un .not (.t 58), none⟩,
  ⟨(some 60), .mv (.t 59), none⟩,
  ⟨(some 61), .mv (.t 6), some (60, false)⟩,
  ⟨(some 62), .nilck (.t 61), some (60, false)⟩,
  ⟨(some 63), .fa 14 (.t 62), some (60, false)⟩,
  ⟨(some 64), .ld none (.t 63), some (60, false)⟩,
  ⟨(some 65), .un .not (.t 64), some (60, false)⟩,
  ⟨(some 66), .pick (.t 60) (.k (.c (.bool true))) (.t 65), none⟩]
abbrev o_rotalaw09_MemberAgree_12 : List IOper := [⟨(some 4), .mv (.k (.c (.bool false))), none⟩]
abbrev o_rotalaw09_MemberAgree_13 : List IOper := [⟨(some 43), .mv (.t 9), none⟩,
  ⟨(some 44), .bin .add (.t 43) (.k (.c (.int .i64 1))), none⟩,
  ⟨(some 9), .mv (.t 44), none⟩]
def b_rotalaw09_MemberAgree_14 : IC := (.seq (.seq (.ops o_rotalaw09_MemberAgree_7) (.cond (.t 42) .skip (.exit 0))) (.seq (.block 1 (.seq (.ops o_rotalaw09_MemberAgree_8) (.seq (.ops o_rotalaw09_MemberAgree_9) (.seq (.ops o_rotalaw09_MemberAgree_10) (.seq (.ops o_rotalaw09_MemberAgree_11) (.cond (.t 66) (.seq (.ops o_rotalaw09_MemberAgree_12) .ret) .skip)))))) (.ops o_rotalaw09_MemberAgree_13)))
abbrev o_rotalaw09_MemberAgree_15 : List IOper := [⟨(some 67), .mv (.t 5), none⟩,
  ⟨(some 4), .mv (.t 67), none⟩]
def c_rotalaw09_MemberAgree : IC := (.seq (.ops o_rotalaw09_MemberAgree_0) (.seq (.ops o_rotalaw09_MemberAgree_1) (.seq (.ops o_rotalaw09_MemberAgree_2) (.seq (.seq (.ops o_rotalaw09_MemberAgree_3) (.cond (.t 28) (.seq (.ops o_rotalaw09_MemberAgree_4) .ret) .skip)) (.seq (.ops o_rotalaw09_MemberAgree_5) (.seq (.seq (.ops o_rotalaw09_MemberAgree_6) (.block 0 (.loop b_rotalaw09_MemberAgree_14))) (.seq (.ops o_rotalaw09_MemberAgree_15) .ret)))))))
def i_rotalaw09_MemberAgree : IFn := ⟨68, c_rotalaw09_MemberAgree, [(4, none)]⟩

-- F 4 rota/rotalaw09.MemberPlays: bads 0, calls [14, 15, 16, 17, 17]
abbrev o_rotalaw09_MemberPlays_0 : List IOper := [⟨(some 3), .box 28 (.t 0), none⟩,
  ⟨(some 6), .mv (.k (.c (.bool false))), none⟩]
abbrev o_rotalaw09_MemberPlays_1 : List IOper := [⟨(some 16), .mv (.t 2), none⟩,
  ⟨(some 17), .len false (.t 16), none⟩,
  ⟨(some 18), .bin .gtr (.t 17) (.k (.c (.int .i64 600))), none⟩]
abbrev o_rotalaw09_MemberPlays_2 : List IOper := [⟨(some 6), .mv (.k (.c (.bool true))), none⟩]
abbrev o_rotalaw09_MemberPlays_3 : List IOper := [⟨(some 19), .ld (some 12) (.t 3), none⟩,
  ⟨(some 7), .new 28 (.agg ([(.int .i64 0)] ++ [(.sl none 0 0 false)] ++ List.replicate 6 (.int .i64 0) ++ List.replicate 4 (.sl none 0 0 false))), none⟩,
  ⟨none, .st 12 (.t 7) (.t 19), none⟩]
abbrev o_rotalaw09_MemberPlays_4 : List IOper := [⟨(some 20), .bsl 3 0 [] [], none⟩,
  ⟨(some 21), .fa 1 (.t 3), none⟩,
  ⟨(some 22), .ld none (.t 21), none⟩,
  ⟨(some 23), .app 3 1 8 (.t 20) (.t 22), none⟩,
  ⟨(some 24), .fa 1 (.t 7), none⟩,
  ⟨none, .st 1 (.t 24) (.t 23), none⟩]
abbrev o_rotalaw09_MemberPlays_5 : List IOper := [⟨(some 26), .ld (some 12) (.t 7), none⟩,
  ⟨(some 27), .mv (.t 1), none⟩,
  ⟨(some 28), .call (.k (.c (.fn fn_member_New [] []))) [(.t 26), (.t 27)], none⟩,
  ⟨(some 25), .mv (.t 28), none⟩,
  ⟨(some 29), .ext (.t 25) 0, none⟩,
  ⟨(some 30), .ext (.t 25) 1, none⟩,
  ⟨(some 8), .mv (.t 29), none⟩,
  ⟨(some 9), .mv (.t 30), none⟩]
abbrev o_rotalaw09_MemberPlays_6 : List IOper := [⟨(some 32), .ld (some 12) (.t 3), none⟩,
  ⟨(some 33), .mv (.t 1), none⟩,
  ⟨(some 34), .call (.k (.c (.fn fn_rotaref09_New [] []))) [(.t 32), (.t 33)], none⟩,
  ⟨(some 31), .mv (.t 34), none⟩,
  ⟨(some 35), .ext (.t 31) 0, none⟩,
  ⟨(some 36), .ext (.t 31) 1, none⟩,
  ⟨(some 10), .new 53 (.agg ([(.int .i64 0)] ++ [(.sl none 0 0 false)] ++ List.replicate 6 (.int .i64 0) ++ List.replicate 4 (.sl none 0 0 false) ++ List.replicate 3 (.int .i64 0) ++ [(.sl none 0 0 false)] ++ List.replicate 4 (.int .i64 0))), none⟩,
  ⟨none, .st 20 (.t 10) (.t 35), none⟩,
  ⟨(some 11), .mv (.t 36), none⟩]
abbrev o_rotalaw09_MemberPlays_7 : List IOper := [⟨(some 37), .mv (.t 9), none⟩,
  ⟨(some 38), .bin .neq (.t 37) (.k (.c (.int .i64 0))), none⟩,
  ⟨(some 39), .mv (.t 38), none⟩,
  ⟨(some 40), .mv (.t 11), some (39, false)⟩,
  ⟨(some 41), .bin .neq (.t 40) (.k (.c (.int .i64 0))), some (39, false)⟩,
  ⟨(some 42), .pick (.t 39) (.k (.c (.bool true))) (.t 41), none⟩]
abbrev o_rotalaw09_MemberPlays_8 : List IOper := [⟨(some 43), .mv (.t 9), none⟩,
  ⟨(some 44), .mv (.t 11), none⟩,
  ⟨(some 45), .bin .eql (.t 43) (.t 44), none⟩,
  ⟨(some 46), .mv (.t 45), none⟩,
  ⟨(some 47), .mv (.t 8), some (46, true)⟩,
  ⟨(some 48), .eq .ptr false (.t 47) (.k (.c (.ptr none))), some (46, true)⟩,
  ⟨(some 49), .pick (.t 46) (.t 48) (.k (.c (.bool false))), none⟩,
  ⟨(some 6), .mv (.t 49), none⟩]
abbrev o_rotalaw09_MemberPlays_9 : List IOper := [⟨(some 12), .mv (.k (.c (.int .i64 0))), none⟩]
abbrev o_rotalaw09_MemberPlays_10 : List IOper := [⟨(some 50), .mv (.t 12), none⟩,
  ⟨(some 51), .fa 1 (.t 7), none⟩,
  ⟨(some 52), .ld none (.t 51), none⟩,
  ⟨(some 53), .len false (.t 52), none⟩,
  ⟨(some 54), .bin .lss (.t 50) (.t 53), none⟩]
abbrev o_rotalaw09_MemberPlays_11 : List IOper := [⟨(some 57), .fa 1 (.t 7), none⟩,
  ⟨(some 58), .ld none (.t 57), none⟩,
  ⟨(some 59), .mv (.t 12), none⟩,
  ⟨(some 60), .iaS 1 (.t 58) (.t 59), none⟩,
  ⟨none, .st 1 (.t 60) (.k (.c (.int .i64 77))), none⟩]
abbrev o_rotalaw09_MemberPlays_12 : List IOper := [⟨(some 55), .mv (.t 12), none⟩,
  ⟨(some 56), .bin .add (.t 55) (.k (.c (.int .i64 1))), none⟩,
  ⟨(some 12), .mv (.t 56), none⟩]
def b_rotalaw09_MemberPlays_13 : IC := (.seq (.seq (.ops o_rotalaw09_MemberPlays_10) (.cond (.t 54) .skip (.exit 0))) (.seq (.block 1 (.ops o_rotalaw09_MemberPlays_11)) (.ops o_rotalaw09_MemberPlays_12)))
abbrev o_rotalaw09_MemberPlays_14 : List IOper := [⟨(some 13), .mv (.k (.c (.int .i64 0))), none⟩]
abbrev o_rotalaw09_MemberPlays_15 : List IOper := [⟨(some 61), .mv (.t 13), none⟩,
  ⟨(some 62), .mv (.t 2), none⟩,
  ⟨(some 63), .len false (.t 62), none⟩,
  ⟨(some 64), .bin .lss (.t 61) (.t 63), none⟩]
abbrev o_rotalaw09_MemberPlays_16 : List IOper := [⟨(some 67), .mv (.t 8), none⟩,
  ⟨(some 68), .mv (.t 2), none⟩,
  ⟨(some 69), .mv (.t 13), none⟩,
  ⟨(some 70), .iaS 3 (.t 68) (.t 69), none⟩,
  ⟨(some 71), .ld (some 3) (.t 70), none⟩,
  ⟨(some 72), .call (.k (.c (.fn fn_rotalaw09_step [] []))) [(.t 67), (.t 10), (.t 71)], none⟩,
  ⟨(some 14), .mv (.t 72), none⟩]
abbrev o_rotalaw09_MemberPlays_17 : List IOper := [⟨(some 73), .mv (.t 8), none⟩,
  ⟨(some 74), .call (.k (.c (.fn fn_rotalaw09_same [] []))) [(.t 73), (.t 10)], none⟩,
  ⟨(some 15), .mv (.t 74), none⟩]
abbrev o_rotalaw09_MemberPlays_18 : List IOper := [⟨(some 75), .mv (.t 14), none⟩,
  ⟨(some 76), .un .not (.t 75), none⟩,
  ⟨(some 77), .mv (.t 76), none⟩,
  ⟨(some 78), .mv (.t 15), some (77, false)⟩,
  ⟨(some 79), .un .not (.t 78), some (77, false)⟩,
  ⟨(some 80), .pick (.t 77) (.k (.c (.bool true))) (.t 79), none⟩]
abbrev o_rotalaw09_MemberPlays_19 : List IOper := [⟨(some 6), .mv (.k (.c (.bool false))), none⟩]
abbrev o_rotalaw09_MemberPlays_20 : List IOper := [⟨(some 65), .mv (.t 13), none⟩,
  ⟨(some 66), .bin .add (.t 65) (.k (.c (.int .i64 1))), none⟩,
  ⟨(some 13), .mv (.t 66), none⟩]
def b_rotalaw09_MemberPlays_21 : IC := (.seq (.seq (.ops o_rotalaw09_MemberPlays_15) (.cond (.t 64) .skip (.exit 2))) (.seq (.block 3 (.seq (.ops o_rotalaw09_MemberPlays_16) (.seq (.ops o_rotalaw09_MemberPlays_17) (.seq (.ops o_rotalaw09_MemberPlays_18) (.cond (.t 80) (.seq (.ops o_rotalaw09_MemberPlays_19) .ret) .skip))))) (.ops o_rotalaw09_MemberPlays_20)))
abbrev o_rotalaw09_MemberPlays_22 : List IOper := [⟨(some 81), .mv (.t 8), none⟩,
  ⟨(some 82), .call (.k (.c (.fn fn_rotalaw09_same [] []))) [(.t 81), (.t 10)], none⟩,
  ⟨(some 6), .mv (.t 82), none⟩]
def c_rotalaw09_MemberPlays : IC := (.seq (.ops o_rotalaw09_MemberPlays_0) (.seq (.seq (.ops o_rotalaw09_MemberPlays_1) (.cond (.t 18) (.seq (.ops o_rotalaw09_MemberPlays_2) .ret) .skip)) (.seq (.ops o_rotalaw09_MemberPlays_3) (.seq (.ops o_rotalaw09_MemberPlays_4) (.seq (.ops o_rotalaw09_MemberPlays_5) (.seq (.ops o_rotalaw09_MemberPlays_6) (.seq (.seq (.ops o_rotalaw09_MemberPlays_7) (.cond (.t 42) (.seq (.ops o_rotalaw09_MemberPlays_8) .ret) .skip)) (.seq (.seq (.ops o_rotalaw09_MemberPlays_9) (.block 0 (.loop b_rotalaw09_MemberPlays_13))) (.seq (.seq (.ops o_rotalaw09_MemberPlays_14) (.block 2 (.loop b_rotalaw09_MemberPlays_21))) (.seq (.ops o_rotalaw09_MemberPlays_22) .ret))))))))))
def i_rotalaw09_MemberPlays : IFn := ⟨83, c_rotalaw09_MemberPlays, [(6, none)]⟩

-- F 5 rota/rotalaw09.MemberHeals: bads 0, calls [8, 9, 10, 11, 12, 12, 18, 12, 19, 10, 20]
abbrev o_rotalaw09_MemberHeals_0 : List IOper := [⟨(some 2), .box 28 (.t 0), none⟩,
  ⟨(some 4), .mv (.k (.c (.bool false))), none⟩]
abbrev o_rotalaw09_MemberHeals_1 : List IOper := [⟨(some 16), .call (.k (.c (.fn fn_rotalaw09_alive [] []))) [], none⟩,
  ⟨(some 5), .mv (.t 16), none⟩]
abbrev o_rotalaw09_MemberHeals_2 : List IOper := [⟨(some 18), .ld (some 12) (.t 2), none⟩,
  ⟨(some 19), .call (.k (.c (.fn fn_rotalaw09_made [] []))) [(.t 18), (.k (.c (.bool true)))], none⟩,
  ⟨(some 17), .mv (.t 19), none⟩,
  ⟨(some 20), .ext (.t 17) 0, none⟩,
  ⟨(some 21), .ext (.t 17) 1, none⟩,
  ⟨(some 6), .mv (.t 20), none⟩,
  ⟨(some 7), .mv (.t 21), none⟩]
abbrev o_rotalaw09_MemberHeals_3 : List IOper := [⟨(some 22), .mv (.t 7), none⟩,
  ⟨(some 23), .un .not (.t 22), none⟩,
  ⟨(some 24), .mv (.t 23), none⟩,
  ⟨(some 25), .mv (.t 1), some (24, false)⟩,
  ⟨(some 26), .len false (.t 25), some (24, false)⟩,
  ⟨(some 27), .bin .gtr (.t 26) (.k (.c (.int .i64 300))), some (24, false)⟩,
  ⟨(some 28), .pick (.t 24) (.k (.c (.bool true))) (.t 27), none⟩,
  ⟨(some 29), .mv (.t 28), none⟩,
  ⟨(some 30), .mv (.t 5), some (29, false)⟩,
  ⟨(some 31), .un .not (.t 30), some (29, false)⟩,
  ⟨(some 32), .pick (.t 29) (.k (.c (.bool true))) (.t 31), none⟩]
abbrev o_rotalaw09_MemberHeals_4 : List IOper := [⟨(some 33), .mv (.t 5), none⟩,
  ⟨(some 4), .mv (.t 33), none⟩]
abbrev o_rotalaw09_MemberHeals_5 : List IOper := [⟨(some 34), .mv (.t 6), none⟩,
  ⟨(some 35), .nilck (.t 34), none⟩,
  ⟨(some 36), .fa 12 (.t 35), none⟩,
  ⟨(some 37), .ld none (.t 36), none⟩,
  ⟨(some 38), .iaS 1 (.t 37) (.k (.c (.int .i64 0))), none⟩,
  ⟨(some 39), .ld none (.t 38), none⟩,
  ⟨(some 40), .call (.k (.c (.fn fn_member_Member_Vector [] []))) [(.t 39)], none⟩,
  ⟨(some 8), .mv (.t 40), none⟩]
abbrev o_rotalaw09_MemberHeals_6 : List IOper := [⟨(some 41), .mv (.t 8), none⟩,
  ⟨(some 42), .build [(.int .u16 0), (.int .i64 0), (.int .u16 0)] [(0, 1, (.t 41)), (1, 1, (.k (.c (.int .i64 (-100)))))], none⟩,
  ⟨(some 43), .box 42 (.t 42), none⟩,
  ⟨(some 9), .mv (.t 43), none⟩]
abbrev o_rotalaw09_MemberHeals_7 : List IOper := [⟨(some 10), .mv (.k (.c (.int .i64 0))), none⟩]
abbrev o_rotalaw09_MemberHeals_8 : List IOper := [⟨(some 44), .mv (.t 10), none⟩,
  ⟨(some 45), .mv (.t 1), none⟩,
  ⟨(some 46), .len false (.t 45), none⟩,
  ⟨(some 47), .bin .lss (.t 44) (.t 46), none⟩]
abbrev o_rotalaw09_MemberHeals_9 : List IOper := [⟨(some 50), .mv (.t 9), none⟩,
  ⟨(some 51), .mv (.t 6), none⟩,
  ⟨(some 52), .mv (.t 1), none⟩,
  ⟨(some 53), .mv (.t 10), none⟩,
  ⟨(some 54), .iaS 1 (.t 52) (.t 53), none⟩,
  ⟨(some 55), .ld none (.t 54), none⟩,
  ⟨(some 56), .call (.k (.c (.fn fn_rotalaw09_ghost_event [] []))) [(.t 50), (.t 51), (.t 55)], none⟩,
  ⟨(some 11), .mv (.t 56), none⟩]
abbrev o_rotalaw09_MemberHeals_10 : List IOper := [⟨(some 57), .mv (.t 6), none⟩,
  ⟨(some 58), .mv (.t 11), none⟩,
  ⟨(some 59), .call (.k (.c (.fn fn_rotalaw09_group_step [] []))) [(.t 57), (.t 58)], none⟩]
abbrev o_rotalaw09_MemberHeals_11 : List IOper := [⟨(some 48), .mv (.t 10), none⟩,
  ⟨(some 49), .bin .add (.t 48) (.k (.c (.int .i64 1))), none⟩,
  ⟨(some 10), .mv (.t 49), none⟩]
def b_rotalaw09_MemberHeals_12 : IC := (.seq (.seq (.ops o_rotalaw09_MemberHeals_8) (.cond (.t 47) .skip (.exit 0))) (.seq (.block 1 (.seq (.ops o_rotalaw09_MemberHeals_9) (.ops o_rotalaw09_MemberHeals_10))) (.ops o_rotalaw09_MemberHeals_11)))
abbrev o_rotalaw09_MemberHeals_13 : List IOper := [⟨(some 12), .mv (.k (.c (.int .i64 0))), none⟩]
abbrev o_rotalaw09_MemberHeals_14 : List IOper := [⟨(some 60), .mv (.t 12), none⟩,
  ⟨(some 61), .fa 0 (.t 2), none⟩,
  ⟨(some 62), .ld none (.t 61), none⟩,
  ⟨(some 63), .bin .mul (.k (.c (.int .i64 2))) (.t 62), none⟩,
  ⟨(some 64), .bin .lss (.t 60) (.t 63), none⟩]
abbrev o_rotalaw09_MemberHeals_15 : List IOper := [⟨(some 67), .mv (.t 6), none⟩,
  ⟨(some 68), .call (.k (.c (.fn fn_rotalaw09_group_step [] []))) [(.t 67), (.k (.c (.int .u16 0)))], none⟩]
abbrev o_rotalaw09_MemberHeals_16 : List IOper := [⟨(some 65), .mv (.t 12), none⟩,
  ⟨(some 66), .bin .add (.t 65) (.k (.c (.int .i64 1))), none⟩,
  ⟨(some 12), .mv (.t 66), none⟩]
def b_rotalaw09_MemberHeals_17 : IC := (.seq (.seq (.ops o_rotalaw09_MemberHeals_14) (.cond (.t 64) .skip (.exit 2))) (.seq (.block 3 (.ops o_rotalaw09_MemberHeals_15)) (.ops o_rotalaw09_MemberHeals_16)))
abbrev o_rotalaw09_MemberHeals_18 : List IOper := [⟨(some 13), .mv (.k (.c (.int .i64 0))), none⟩]
abbrev o_rotalaw09_MemberHeals_19 : List IOper := [⟨(some 69), .mv (.t 13), none⟩,
  ⟨(some 70), .mv (.t 6), none⟩,
  ⟨(some 71), .nilck (.t 70), none⟩,
  ⟨(some 72), .fa 12 (.t 71), none⟩,
  ⟨(some 73), .ld none (.t 72), none⟩,
  ⟨(some 74), .len false (.t 73), none⟩,
  ⟨(some 75), .bin .lss (.t 69) (.t 74), none⟩]
abbrev o_rotalaw09_MemberHeals_20 : List IOper := [⟨(some 78), .mv (.t 9), none⟩,
  ⟨(some 79), .nilck (.t 78), none⟩,
  ⟨(some 80), .fa 0 (.t 79), none⟩,
  ⟨(some 81), .ld none (.t 80), none⟩,
  ⟨(some 82), .mv (.t 13), none⟩,
  ⟨(some 83), .bin .shl (.k (.c (.int .u16 1))) (.t 82), none⟩,
  ⟨(some 84), .bin .and (.t 81) (.t 83), none⟩,
  ⟨(some 85), .bin .eql (.t 84) (.k (.c (.int .u16 0))), none⟩]
abbrev o_rotalaw09_MemberHeals_21 : List IOper := [⟨(some 86), .mv (.t 6), none⟩,
  ⟨(some 87), .nilck (.t 86), none⟩,
  ⟨(some 88), .fa 12 (.t 87), none⟩,
  ⟨(some 89), .ld none (.t 88), none⟩,
  ⟨(some 90), .mv (.t 13), none⟩,
  ⟨(some 91), .iaS 1 (.t 89) (.t 90), none⟩,
  ⟨(some 92), .ld none (.t 91), none⟩,
  ⟨(some 93), .call (.k (.c (.fn fn_member_Member_Start [] []))) [(.t 92)], none⟩]
abbrev o_rotalaw09_MemberHeals_22 : List IOper := [⟨(some 76), .mv (.t 13), none⟩,
  ⟨(some 77), .bin .add (.t 76) (.k (.c (.int .i64 1))), none⟩,
  ⟨(some 13), .mv (.t 77), none⟩]
def b_rotalaw09_MemberHeals_23 : IC := (.seq (.seq (.ops o_rotalaw09_MemberHeals_19) (.cond (.t 75) .skip (.exit 4))) (.seq (.block 5 (.seq (.ops o_rotalaw09_MemberHeals_20) (.cond (.t 85) (.ops o_rotalaw09_MemberHeals_21) .skip))) (.ops o_rotalaw09_MemberHeals_22)))
abbrev o_rotalaw09_MemberHeals_24 : List IOper := [⟨(some 14), .mv (.k (.c (.int .i64 0))), none⟩]
abbrev o_rotalaw09_MemberHeals_25 : List IOper := [⟨(some 94), .mv (.t 14), none⟩,
  ⟨(some 95), .fa 6 (.t 2), none⟩,
  ⟨(some 96), .ld none (.t 95), none⟩,
  ⟨(some 97), .bin .add (.t 96) (.k (.c (.int .i64 5))), none⟩,
  ⟨(some 98), .fa 0 (.t 2), none⟩,
  ⟨(some 99), .ld none (.t 98), none⟩,
  ⟨(some 100), .bin .mul (.t 97) (.t 99), none⟩,
  ⟨(some 101), .bin .lss (.t 94) (.t 100), none⟩]
abbrev o_rotalaw09_MemberHeals_26 : List IOper := [⟨(some 104), .mv (.t 6), none⟩,
  ⟨(some 105), .call (.k (.c (.fn fn_rotalaw09_group_step [] []))) [(.t 104), (.k (.c (.int .u16 0)))], none⟩]
abbrev o_rotalaw09_MemberHeals_27 : List IOper := [⟨(some 102), .mv (.t 14), none⟩,
  ⟨(some 103), .bin .add (.t 102) (.k (.c (.int .i64 1))), none⟩,
  ⟨(some 14), .mv (.t 103), none⟩]
def b_rotalaw09_MemberHeals_28 : IC := (.seq (.seq (.ops o_rotalaw09_MemberHeals_25) (.cond (.t 101) .skip (.exit 6))) (.seq (.block 7 (.ops o_rotalaw09_MemberHeals_26)) (.ops o_rotalaw09_MemberHeals_27)))
abbrev o_rotalaw09_MemberHeals_29 : List IOper := [⟨(some 15), .mv (.k (.c (.int .i64 0))), none⟩]
abbrev o_rotalaw09_MemberHeals_30 : List IOper := [⟨(some 106), .mv (.t 15), none⟩,
  ⟨(some 107), .mv (.t 6), none⟩,
  ⟨(some 108), .nilck (.t 107), none⟩,
  ⟨(some 109), .fa 12 (.t 108), none⟩,
  ⟨(some 110), .ld none (.t 109), none⟩,
  ⟨(some 111), .len false (.t 110), none⟩,
  ⟨(some 112), .bin .lss (.t 106) (.t 111), none⟩]
abbrev o_rotalaw09_MemberHeals_31 : List IOper := [⟨(some 119), .mv (.t 15), none⟩,
  ⟨(some 115), .mv (.t 6), none⟩,
  ⟨(some 116), .nilck (.t 115), none⟩,
  ⟨(some 117), .fa 12 (.t 116), none⟩,
  ⟨(some 118), .ld none (.t 117), none⟩,
  ⟨(some 120), .iaS 1 (.t 118) (.t 119), none⟩,
  ⟨(some 121), .ld none (.t 120), none⟩,
  ⟨(some 122), .call (.k (.c (.fn fn_member_Member_State [] []))) [(.t 121)], none⟩,
  ⟨(some 123), .bin .neq (.t 122) (.k (.c (.int .i64 2))), none⟩,
  ⟨(some 124), .mv (.t 123), none⟩,
  ⟨(some 133), .mv (.t 8), some (124, false)⟩,
  ⟨(some 129), .mv (.t 15), some (124, false)⟩,
  ⟨(some 125), .mv (.t 6), some (124, false)⟩,
  ⟨(some 126), .nilck (.t 125), some (124, false)⟩,
  ⟨(some 127), .fa 12 (.t 126), some (124, false)⟩,
  ⟨(some 128), .ld none (.t 127), some (124, false)⟩,
  ⟨(some 130), .iaS 1 (.t 128) (.t 129), some (124, false)⟩,
  ⟨(some 131), .ld none (.t 130), some (124, false)⟩,
  ⟨(some 132), .call (.k (.c (.fn fn_member_Member_Vector [] []))) [(.t 131)], some (124, false)⟩,
  ⟨(some 134), .bin .neq (.t 132) (.t 133), some (124, false)⟩,
  ⟨(some 135), .pick (.t 124) (.k (.c (.bool true))) (.t 134), none⟩,
  ⟨(some 136), .mv (.t 135), none⟩,
  ⟨(some 145), .mv (.t 6), some (136, false)⟩,
  ⟨(some 146), .nilck (.t 145), some (136, false)⟩,
  ⟨(some 147), .fa 13 (.t 146), some (136, false)⟩,
  ⟨(some 148), .ld none (.t 147), some (136, false)⟩,
  ⟨(some 141), .mv (.t 15), some (136, false)⟩,
  ⟨(some 137), .mv (.t 6), some (136, false)⟩,
  ⟨(some 138), .nilck (.t 137), some (136, false)⟩,
  ⟨(some 139), .fa 12 (.t 138), some (136, false)⟩,
  ⟨(some 140), .ld none (.t 139), some (136, false)⟩,
  ⟨(some 142), .iaS 1 (.t 140) (.t 141), some (136, false)⟩,
  ⟨(some 143), .ld none (.t 142), some (136, false)⟩,
  ⟨(some 144), .call (.k (.c (.fn fn_member_Member_Slot [] []))) [(.t 143)], some (136, false)⟩,
  ⟨none, .same (some none) (.t 147) (.t 148), some (136, false)⟩,
  ⟨(some 149), .bin .neq (.t 144) (.t 148), some (136, false)⟩,
  ⟨(some 150), .pick (.t 136) (.k (.c (.bool true))) (.t 149), none⟩]
abbrev o_rotalaw09_MemberHeals_32 : List IOper := [⟨(some 4), .mv (.k (.c (.bool false))), none⟩]
abbrev o_rotalaw09_MemberHeals_33 : List IOper := [⟨(some 113), .mv (.t 15), none⟩,
  ⟨(some 114), .bin .add (.t 113) (.k (.c (.int .i64 1))), none⟩,
  ⟨(some 15), .mv (.t 114), none⟩]
def b_rotalaw09_MemberHeals_34 : IC := (.seq (.seq (.ops o_rotalaw09_MemberHeals_30) (.cond (.t 112) .skip (.exit 8))) (.seq (.block 9 (.seq (.ops o_rotalaw09_MemberHeals_31) (.cond (.t 150) (.seq (.ops o_rotalaw09_MemberHeals_32) .ret) .skip))) (.ops o_rotalaw09_MemberHeals_33)))
abbrev o_rotalaw09_MemberHeals_35 : List IOper := [⟨(some 151), .mv (.t 5), none⟩,
  ⟨(some 4), .mv (.t 151), none⟩]
def c_rotalaw09_MemberHeals : IC := (.seq (.ops o_rotalaw09_MemberHeals_0) (.seq (.ops o_rotalaw09_MemberHeals_1) (.seq (.ops o_rotalaw09_MemberHeals_2) (.seq (.seq (.ops o_rotalaw09_MemberHeals_3) (.cond (.t 32) (.seq (.ops o_rotalaw09_MemberHeals_4) .ret) .skip)) (.seq (.ops o_rotalaw09_MemberHeals_5) (.seq (.ops o_rotalaw09_MemberHeals_6) (.seq (.seq (.ops o_rotalaw09_MemberHeals_7) (.block 0 (.loop b_rotalaw09_MemberHeals_12))) (.seq (.seq (.ops o_rotalaw09_MemberHeals_13) (.block 2 (.loop b_rotalaw09_MemberHeals_17))) (.seq (.seq (.ops o_rotalaw09_MemberHeals_18) (.block 4 (.loop b_rotalaw09_MemberHeals_23))) (.seq (.seq (.ops o_rotalaw09_MemberHeals_24) (.block 6 (.loop b_rotalaw09_MemberHeals_28))) (.seq (.seq (.ops o_rotalaw09_MemberHeals_29) (.block 8 (.loop b_rotalaw09_MemberHeals_34))) (.seq (.ops o_rotalaw09_MemberHeals_35) .ret))))))))))))
def i_rotalaw09_MemberHeals : IFn := ⟨152, c_rotalaw09_MemberHeals, [(4, none)]⟩

-- F 6 rota/rotalaw09.MemberStarts: bads 0, calls [8, 9, 18, 12, 12, 19, 20, 19, 10, 20]
abbrev o_rotalaw09_MemberStarts_0 : List IOper := [⟨(some 2), .box 28 (.t 0), none⟩,
  ⟨(some 4), .mv (.k (.c (.bool false))), none⟩]
abbrev o_rotalaw09_MemberStarts_1 : List IOper := [⟨(some 16), .call (.k (.c (.fn fn_rotalaw09_alive [] []))) [], none⟩,
  ⟨(some 5), .mv (.t 16), none⟩]
abbrev o_rotalaw09_MemberStarts_2 : List IOper := [⟨(some 18), .ld (some 12) (.t 2), none⟩,
  ⟨(some 19), .call (.k (.c (.fn fn_rotalaw09_made [] []))) [(.t 18), (.k (.c (.bool false)))], none⟩,
  ⟨(some 17), .mv (.t 19), none⟩,
  ⟨(some 20), .ext (.t 17) 0, none⟩,
  ⟨(some 21), .ext (.t 17) 1, none⟩,
  ⟨(some 6), .mv (.t 20), none⟩,
  ⟨(some 7), .mv (.t 21), none⟩]
abbrev o_rotalaw09_MemberStarts_3 : List IOper := [⟨(some 22), .mv (.t 7), none⟩,
  ⟨(some 23), .un .not (.t 22), none⟩,
  ⟨(some 24), .mv (.t 23), none⟩,
  ⟨(some 25), .mv (.t 1), some (24, false)⟩,
  ⟨(some 26), .len false (.t 25), some (24, false)⟩,
  ⟨(some 27), .bin .gtr (.t 26) (.k (.c (.int .i64 100))), some (24, false)⟩,
  ⟨(some 28), .pick (.t 24) (.k (.c (.bool true))) (.t 27), none⟩,
  ⟨(some 29), .mv (.t 28), none⟩,
  ⟨(some 30), .mv (.t 5), some (29, false)⟩,
  ⟨(some 31), .un .not (.t 30), some (29, false)⟩,
  ⟨(some 32), .pick (.t 29) (.k (.c (.bool true))) (.t 31), none⟩]
abbrev o_rotalaw09_MemberStarts_4 : List IOper := [⟨(some 33), .mv (.t 5), none⟩,
  ⟨(some 4), .mv (.t 33), none⟩]
abbrev o_rotalaw09_MemberStarts_5 : List IOper := [⟨(some 8), .mv (.k (.c (.int .u16 0))), none⟩]
abbrev o_rotalaw09_MemberStarts_6 : List IOper := [⟨(some 9), .mv (.k (.c (.int .i64 0))), none⟩]
abbrev o_rotalaw09_MemberStarts_7 : List IOper := [⟨(some 10), .mv (.k (.c (.int .i64 0))), none⟩]
abbrev o_rotalaw09_MemberStarts_8 : List IOper := [⟨(some 34), .mv (.t 10), none⟩,
  ⟨(some 35), .bin .lss (.t 34) (.k (.c (.int .i64 200))), none⟩]
abbrev o_rotalaw09_MemberStarts_9 : List IOper := [⟨(some 11), .mv (.k (.c (.int .i64 0))), none⟩]
abbrev o_rotalaw09_MemberStarts_10 : List IOper := [⟨(some 38), .mv (.t 11), none⟩,
  ⟨(some 39), .mv (.t 1), none⟩,
  ⟨(some 40), .len false (.t 39), none⟩,
  ⟨(some 41), .bin .lss (.t 38) (.t 40), none⟩,
  ⟨(some 42), .mv (.t 41), none⟩,
  ⟨(some 43), .mv (.t 11), some (42, true)⟩,
  ⟨(some 44), .fa 0 (.t 2), some (42, true)⟩,
  ⟨(some 45), .ld none (.t 44), some (42, true)⟩,
  ⟨(some 46), .bin .lss (.t 43) (.t 45), some (42, true)⟩,
  ⟨(some 47), .pick (.t 42) (.t 46) (.k (.c (.bool false))), none⟩]
abbrev o_rotalaw09_MemberStarts_11 : List IOper := [⟨(some 50), .mv (.t 1), none⟩,
  ⟨(some 51), .mv (.t 11), none⟩,
  ⟨(some 52), .iaS 1 (.t 50) (.t 51), none⟩,
  ⟨(some 53), .ld none (.t 52), none⟩,
  ⟨(some 54), .cv .i64 (.t 53), none⟩,
  ⟨(some 55), .mv (.t 10), none⟩,
  ⟨(some 56), .bin .eql (.t 54) (.t 55), none⟩]
abbrev o_rotalaw09_MemberStarts_12 : List IOper := [⟨(some 57), .mv (.t 6), none⟩,
  ⟨(some 58), .nilck (.t 57), none⟩,
  ⟨(some 59), .fa 12 (.t 58), none⟩,
  ⟨(some 60), .ld none (.t 59), none⟩,
  ⟨(some 61), .mv (.t 11), none⟩,
  ⟨(some 62), .iaS 1 (.t 60) (.t 61), none⟩,
  ⟨(some 63), .ld none (.t 62), none⟩,
  ⟨(some 64), .call (.k (.c (.fn fn_member_Member_Start [] []))) [(.t 63)], none⟩]
abbrev o_rotalaw09_MemberStarts_13 : List IOper := [⟨(some 65), .mv (.t 8), none⟩,
  ⟨(some 66), .mv (.t 11), none⟩,
  ⟨(some 67), .bin .shl (.k (.c (.int .u16 1))) (.t 66), none⟩,
  ⟨(some 68), .bin .or (.t 65) (.t 67), none⟩,
  ⟨(some 8), .mv (.t 68), none⟩]
abbrev o_rotalaw09_MemberStarts_14 : List IOper := [⟨(some 69), .mv (.t 10), none⟩,
  ⟨(some 9), .mv (.t 69), none⟩]
abbrev o_rotalaw09_MemberStarts_15 : List IOper := [⟨(some 48), .mv (.t 11), none⟩,
  ⟨(some 49), .bin .add (.t 48) (.k (.c (.int .i64 1))), none⟩,
  ⟨(some 11), .mv (.t 49), none⟩]
def b_rotalaw09_MemberStarts_16 : IC := (.seq (.seq (.ops o_rotalaw09_MemberStarts_10) (.cond (.t 47) .skip (.exit 2))) (.seq (.block 3 (.seq (.ops o_rotalaw09_MemberStarts_11) (.cond (.t 56) (.seq (.ops o_rotalaw09_MemberStarts_12) (.seq (.ops o_rotalaw09_MemberStarts_13) (.ops o_rotalaw09_MemberStarts_14))) .skip))) (.ops o_rotalaw09_MemberStarts_15)))
abbrev o_rotalaw09_MemberStarts_17 : List IOper := [⟨(some 70), .mv (.t 6), none⟩,
  ⟨(some 71), .call (.k (.c (.fn fn_rotalaw09_group_step [] []))) [(.t 70), (.k (.c (.int .u16 0)))], none⟩]
abbrev o_rotalaw09_MemberStarts_18 : List IOper := [⟨(some 36), .mv (.t 10), none⟩,
  ⟨(some 37), .bin .add (.t 36) (.k (.c (.int .i64 1))), none⟩,
  ⟨(some 10), .mv (.t 37), none⟩]
def b_rotalaw09_MemberStarts_19 : IC := (.seq (.seq (.ops o_rotalaw09_MemberStarts_8) (.cond (.t 35) .skip (.exit 0))) (.seq (.block 1 (.seq (.seq (.ops o_rotalaw09_MemberStarts_9) (.block 2 (.loop b_rotalaw09_MemberStarts_16))) (.ops o_rotalaw09_MemberStarts_17))) (.ops o_rotalaw09_MemberStarts_18)))
abbrev o_rotalaw09_MemberStarts_20 : List IOper := [⟨(some 12), .mv (.k (.c (.int .i64 200))), none⟩]
abbrev o_rotalaw09_MemberStarts_21 : List IOper := [⟨(some 72), .mv (.t 12), none⟩,
  ⟨(some 73), .mv (.t 9), none⟩,
  ⟨(some 74), .fa 6 (.t 2), none⟩,
  ⟨(some 75), .ld none (.t 74), none⟩,
  ⟨(some 76), .bin .add (.t 75) (.k (.c (.int .i64 8))), none⟩,
  ⟨(some 77), .fa 0 (.t 2), none⟩,
  ⟨(some 78), .ld none (.t 77), none⟩,
  ⟨(some 79), .bin .mul (.t 76) (.t 78), none⟩,
  ⟨(some 80), .bin .add (.t 73) (.t 79), none⟩,
  ⟨(some 81), .bin .lss (.t 72) (.t 80), none⟩]
abbrev o_rotalaw09_MemberStarts_22 : List IOper := [⟨(some 84), .mv (.t 6), none⟩,
  ⟨(some 85), .call (.k (.c (.fn fn_rotalaw09_group_step [] []))) [(.t 84), (.k (.c (.int .u16 0)))], none⟩]
abbrev o_rotalaw09_MemberStarts_23 : List IOper := [⟨(some 82), .mv (.t 12), none⟩,
  ⟨(some 83), .bin .add (.t 82) (.k (.c (.int .i64 1))), none⟩,
  ⟨(some 12), .mv (.t 83), none⟩]
def b_rotalaw09_MemberStarts_24 : IC := (.seq (.seq (.ops o_rotalaw09_MemberStarts_21) (.cond (.t 81) .skip (.exit 4))) (.seq (.block 5 (.ops o_rotalaw09_MemberStarts_22)) (.ops o_rotalaw09_MemberStarts_23)))
abbrev o_rotalaw09_MemberStarts_25 : List IOper := [⟨(some 13), .mv (.k (.c (.int .i64 (-1)))), none⟩]
abbrev o_rotalaw09_MemberStarts_26 : List IOper := [⟨(some 14), .mv (.k (.c (.int .i64 0))), none⟩]
abbrev o_rotalaw09_MemberStarts_27 : List IOper := [⟨(some 86), .mv (.t 14), none⟩,
  ⟨(some 87), .mv (.t 6), none⟩,
  ⟨(some 88), .nilck (.t 87), none⟩,
  ⟨(some 89), .fa 12 (.t 88), none⟩,
  ⟨(some 90), .ld none (.t 89), none⟩,
  ⟨(some 91), .len false (.t 90), none⟩,
  ⟨(some 92), .bin .lss (.t 86) (.t 91), none⟩]
abbrev o_rotalaw09_MemberStarts_28 : List IOper := [⟨(some 95), .mv (.t 6), none⟩,
  ⟨(some 96), .nilck (.t 95), none⟩,
  ⟨(some 97), .fa 12 (.t 96), none⟩,
  ⟨(some 98), .ld none (.t 97), none⟩,
  ⟨(some 99), .mv (.t 14), none⟩,
  ⟨(some 100), .iaS 1 (.t 98) (.t 99), none⟩,
  ⟨(some 101), .ld none (.t 100), none⟩,
  ⟨(some 15), .mv (.t 101), none⟩]
abbrev o_rotalaw09_MemberStarts_29 : List IOper := [⟨(some 102), .mv (.t 8), none⟩,
  ⟨(some 103), .mv (.t 14), none⟩,
  ⟨(some 104), .bin .shl (.k (.c (.int .u16 1))) (.t 103), none⟩,
  ⟨(some 105), .bin .and (.t 102) (.t 104), none⟩,
  ⟨(some 106), .bin .eql (.t 105) (.k (.c (.int .u16 0))), none⟩]
abbrev o_rotalaw09_MemberStarts_30 : List IOper := [⟨(some 107), .mv (.t 15), none⟩,
  ⟨(some 108), .call (.k (.c (.fn fn_member_Member_State [] []))) [(.t 107)], none⟩,
  ⟨(some 109), .bin .neq (.t 108) (.k (.c (.int .i64 0))), none⟩]
abbrev o_rotalaw09_MemberStarts_31 : List IOper := [⟨(some 4), .mv (.k (.c (.bool false))), none⟩]
abbrev o_rotalaw09_MemberStarts_32 : List IOper := [⟨(some 110), .mv (.t 13), none⟩,
  ⟨(some 111), .bin .lss (.t 110) (.k (.c (.int .i64 0))), none⟩]
abbrev o_rotalaw09_MemberStarts_33 : List IOper := [⟨(some 112), .mv (.t 15), none⟩,
  ⟨(some 113), .call (.k (.c (.fn fn_member_Member_Slot [] []))) [(.t 112)], none⟩,
  ⟨(some 13), .mv (.t 113), none⟩]
abbrev o_rotalaw09_MemberStarts_34 : List IOper := [⟨(some 114), .mv (.t 15), none⟩,
  ⟨(some 115), .call (.k (.c (.fn fn_member_Member_State [] []))) [(.t 114)], none⟩,
  ⟨(some 116), .bin .neq (.t 115) (.k (.c (.int .i64 2))), none⟩,
  ⟨(some 117), .mv (.t 116), none⟩,
  ⟨(some 118), .mv (.t 15), some (117, false)⟩,
  ⟨(some 119), .call (.k (.c (.fn fn_member_Member_Vector [] []))) [(.t 118)], some (117, false)⟩,
  ⟨(some 120), .mv (.t 8), some (117, false)⟩,
  ⟨(some 121), .bin .neq (.t 119) (.t 120), some (117, false)⟩,
  ⟨(some 122), .pick (.t 117) (.k (.c (.bool true))) (.t 121), none⟩,
  ⟨(some 123), .mv (.t 122), none⟩,
  ⟨(some 124), .mv (.t 15), some (123, false)⟩,
  ⟨(some 125), .call (.k (.c (.fn fn_member_Member_Slot [] []))) [(.t 124)], some (123, false)⟩,
  ⟨(some 126), .mv (.t 13), some (123, false)⟩,
  ⟨(some 127), .bin .neq (.t 125) (.t 126), some (123, false)⟩,
  ⟨(some 128), .pick (.t 123) (.k (.c (.bool true))) (.t 127), none⟩]
abbrev o_rotalaw09_MemberStarts_35 : List IOper := [⟨(some 4), .mv (.k (.c (.bool false))), none⟩]
abbrev o_rotalaw09_MemberStarts_36 : List IOper := [⟨(some 93), .mv (.t 14), none⟩,
  ⟨(some 94), .bin .add (.t 93) (.k (.c (.int .i64 1))), none⟩,
  ⟨(some 14), .mv (.t 94), none⟩]
def b_rotalaw09_MemberStarts_37 : IC := (.seq (.seq (.ops o_rotalaw09_MemberStarts_27) (.cond (.t 92) .skip (.exit 6))) (.seq (.block 7 (.seq (.ops o_rotalaw09_MemberStarts_28) (.seq (.seq (.ops o_rotalaw09_MemberStarts_29) (.cond (.t 106) (.seq (.seq (.ops o_rotalaw09_MemberStarts_30) (.cond (.t 109) (.seq (.ops o_rotalaw09_MemberStarts_31) .ret) .skip)) (.exit 7)) .skip)) (.seq (.seq (.ops o_rotalaw09_MemberStarts_32) (.cond (.t 111) (.ops o_rotalaw09_MemberStarts_33) .skip)) (.seq (.ops o_rotalaw09_MemberStarts_34) (.cond (.t 128) (.seq (.ops o_rotalaw09_MemberStarts_35) .ret) .skip)))))) (.ops o_rotalaw09_MemberStarts_36)))
abbrev o_rotalaw09_MemberStarts_38 : List IOper := [⟨(some 129), .mv (.t 5), none⟩,
  ⟨(some 4), .mv (.t 129), none⟩]
def c_rotalaw09_MemberStarts : IC := (.seq (.ops o_rotalaw09_MemberStarts_0) (.seq (.ops o_rotalaw09_MemberStarts_1) (.seq (.ops o_rotalaw09_MemberStarts_2) (.seq (.seq (.ops o_rotalaw09_MemberStarts_3) (.cond (.t 32) (.seq (.ops o_rotalaw09_MemberStarts_4) .ret) .skip)) (.seq (.ops o_rotalaw09_MemberStarts_5) (.seq (.ops o_rotalaw09_MemberStarts_6) (.seq (.seq (.ops o_rotalaw09_MemberStarts_7) (.block 0 (.loop b_rotalaw09_MemberStarts_19))) (.seq (.seq (.ops o_rotalaw09_MemberStarts_20) (.block 4 (.loop b_rotalaw09_MemberStarts_24))) (.seq (.ops o_rotalaw09_MemberStarts_25) (.seq (.seq (.ops o_rotalaw09_MemberStarts_26) (.block 6 (.loop b_rotalaw09_MemberStarts_37))) (.seq (.ops o_rotalaw09_MemberStarts_38) .ret)))))))))))
def i_rotalaw09_MemberStarts : IFn := ⟨130, c_rotalaw09_MemberStarts, [(4, none)]⟩

-- F 7 rota/rotalaw09.MemberNames: bads 0, calls [21, 14, 19, 20, 22, 23, 24, 25, 24, 23, 19, 20, 21, 14, 23, 18, 23, 25, 26, 23, 19, 18, 27, 25, 24, 26, 20, 10, 19, 25, 26, 10, 20, 14, 21, 14, 22, 22, 22, 24, 19, 18, 22, 24, 23, 25, 8, 20, 19, 10]
abbrev o_rotalaw09_MemberNames_0 : List IOper := [⟨(some 0), .mv (.k (.c (.bool false))), none⟩]
abbrev o_rotalaw09_MemberNames_1 : List IOper := [⟨(some 39), .call (.k (.c (.fn fn_rotalaw07_Four [] []))) [], none⟩,
  ⟨(some 40), .call (.k (.c (.fn fn_member_New [] []))) [(.t 39), (.k (.c (.int .i64 1)))], none⟩,
  ⟨(some 38), .mv (.t 40), none⟩,
  ⟨(some 41), .ext (.t 38) 0, none⟩,
  ⟨(some 42), .ext (.t 38) 1, none⟩,
  ⟨(some 1), .mv (.t 41), none⟩,
  ⟨(some 2), .mv (.t 42), none⟩]
abbrev o_rotalaw09_MemberNames_2 : List IOper := [⟨(some 43), .mv (.t 1), none⟩,
  ⟨(some 44), .call (.k (.c (.fn fn_member_Member_State [] []))) [(.t 43)], none⟩,
  ⟨(some 45), .bin .eql (.t 44) (.k (.c (.int .i64 0))), none⟩,
  ⟨(some 46), .mv (.t 45), none⟩,
  ⟨(some 47), .mv (.t 1), some (46, true)⟩,
  ⟨(some 48), .call (.k (.c (.fn fn_member_Member_Slot [] []))) [(.t 47)], some (46, true)⟩,
  ⟨(some 49), .bin .eql (.t 48) (.k (.c (.int .i64 (-1)))), some (46, true)⟩,
  ⟨(some 50), .pick (.t 46) (.t 49) (.k (.c (.bool false))), none⟩,
  ⟨(some 3), .mv (.t 50), none⟩]
abbrev o_rotalaw09_MemberNames_3 : List IOper := [⟨(some 51), .mv (.t 1), none⟩,
  ⟨(some 52), .call (.k (.c (.fn fn_member_Member_Join [] []))) [(.t 51), (.k (.c (.int .i64 1)))], none⟩]
abbrev o_rotalaw09_MemberNames_4 : List IOper := [⟨(some 54), .mv (.t 1), none⟩,
  ⟨(some 55), .call (.k (.c (.fn fn_member_Member_Turn [] []))) [(.t 54)], none⟩,
  ⟨(some 53), .mv (.t 55), none⟩,
  ⟨(some 56), .ext (.t 53) 0, none⟩,
  ⟨(some 57), .ext (.t 53) 1, none⟩,
  ⟨(some 4), .new 69 (.agg [(.int .i64 0), (.int .u16 0)]), none⟩,
  ⟨none, .st 2 (.t 4) (.t 56), none⟩,
  ⟨(some 5), .mv (.t 57), none⟩]
abbrev o_rotalaw09_MemberNames_5 : List IOper := [⟨(some 58), .mv (.t 3), none⟩,
  ⟨(some 59), .mv (.t 58), none⟩,
  ⟨(some 60), .mv (.t 5), some (59, true)⟩,
  ⟨(some 61), .pick (.t 59) (.t 60) (.k (.c (.bool false))), none⟩,
  ⟨(some 62), .mv (.t 61), none⟩,
  ⟨(some 63), .ld (some 2) (.t 4), some (62, true)⟩,
  ⟨(some 64), .build [(.int .i64 0), (.int .u16 0)] [(0, 1, (.k (.c (.int .i64 1)))), (1, 1, (.k (.c (.int .u16 15))))], some (62, true)⟩,
  ⟨(some 65), .eqagg [.int, .int] false (.t 63) (.t 64), some (62, true)⟩,
  ⟨(some 66), .pick (.t 62) (.t 65) (.k (.c (.bool false))), none⟩,
  ⟨(some 3), .mv (.t 66), none⟩]
abbrev o_rotalaw09_MemberNames_6 : List IOper := [⟨(some 67), .mv (.t 1), none⟩,
  ⟨(some 68), .call (.k (.c (.fn fn_member_Member_Next [] []))) [(.t 67)], none⟩]
abbrev o_rotalaw09_MemberNames_7 : List IOper := [⟨(some 6), .mv (.k (.c (.int .i64 0))), none⟩]
abbrev o_rotalaw09_MemberNames_8 : List IOper := [⟨(some 69), .mv (.t 6), none⟩,
  ⟨(some 70), .bin .lss (.t 69) (.k (.c (.int .i64 3))), none⟩]
abbrev o_rotalaw09_MemberNames_9 : List IOper := [⟨(some 73), .mv (.t 1), none⟩,
  ⟨(some 74), .call (.k (.c (.fn fn_member_Member_Hear [] []))) [(.t 73), (.k (.c (.sl none 0 0 false))), (.k (.c (.bool true)))], none⟩]
abbrev o_rotalaw09_MemberNames_10 : List IOper := [⟨(some 75), .mv (.t 1), none⟩,
  ⟨(some 76), .call (.k (.c (.fn fn_member_Member_Next [] []))) [(.t 75)], none⟩]
abbrev o_rotalaw09_MemberNames_11 : List IOper := [⟨(some 71), .mv (.t 6), none⟩,
  ⟨(some 72), .bin .add (.t 71) (.k (.c (.int .i64 1))), none⟩,
  ⟨(some 6), .mv (.t 72), none⟩]
def b_rotalaw09_MemberNames_12 : IC := (.seq (.seq (.ops o_rotalaw09_MemberNames_8) (.cond (.t 70) .skip (.exit 0))) (.seq (.block 1 (.seq (.ops o_rotalaw09_MemberNames_9) (.ops o_rotalaw09_MemberNames_10))) (.ops o_rotalaw09_MemberNames_11)))
abbrev o_rotalaw09_MemberNames_13 : List IOper := [⟨(some 78), .mv (.t 1), none⟩,
  ⟨(some 79), .call (.k (.c (.fn fn_member_Member_Turn [] []))) [(.t 78)], none⟩,
  ⟨(some 77), .mv (.t 79), none⟩,
  ⟨(some 80), .ext (.t 77) 0, none⟩,
  ⟨(some 81), .ext (.t 77) 1, none⟩,
  ⟨(some 7), .new 69 (.agg [(.int .i64 0), (.int .u16 0)]), none⟩,
  ⟨none, .st 2 (.t 7) (.t 80), none⟩,
  ⟨(some 8), .mv (.t 81), none⟩]
abbrev o_rotalaw09_MemberNames_14 : List IOper := [⟨(some 82), .mv (.t 3), none⟩,
  ⟨(some 83), .mv (.t 82), none⟩,
  ⟨(some 84), .mv (.t 8), some (83, true)⟩,
  ⟨(some 85), .un .not (.t 84), some (83, true)⟩,
  ⟨(some 86), .pick (.t 83) (.t 85) (.k (.c (.bool false))), none⟩,
  ⟨(some 87), .mv (.t 86), none⟩,
  ⟨(some 88), .mv (.t 1), some (87, true)⟩,
  ⟨(some 89), .call (.k (.c (.fn fn_member_Member_State [] []))) [(.t 88)], some (87, true)⟩,
  ⟨(some 90), .bin .eql (.t 89) (.k (.c (.int .i64 3))), some (87, true)⟩,
  ⟨(some 91), .pick (.t 87) (.t 90) (.k (.c (.bool false))), none⟩,
  ⟨(some 92), .mv (.t 91), none⟩,
  ⟨(some 93), .mv (.t 1), some (92, true)⟩,
  ⟨(some 94), .call (.k (.c (.fn fn_member_Member_Slot [] []))) [(.t 93)], some (92, true)⟩,
  ⟨(some 95), .bin .eql (.t 94) (.k (.c (.int .i64 (-1)))), some (92, true)⟩,
  ⟨(some 96), .pick (.t 92) (.t 95) (.k (.c (.bool false))), none⟩,
  ⟨(some 3), .mv (.t 96), none⟩]
abbrev o_rotalaw09_MemberNames_15 : List IOper := [⟨(some 98), .call (.k (.c (.fn fn_rotalaw07_Four [] []))) [], none⟩,
  ⟨(some 99), .call (.k (.c (.fn fn_member_New [] []))) [(.t 98), (.k (.c (.int .i64 1)))], none⟩,
  ⟨(some 97), .mv (.t 99), none⟩,
  ⟨(some 100), .ext (.t 97) 0, none⟩,
  ⟨(some 101), .ext (.t 97) 1, none⟩,
  ⟨(some 1), .mv (.t 100), none⟩]
abbrev o_rotalaw09_MemberNames_16 : List IOper := [⟨(some 103), .mv (.t 1), none⟩,
  ⟨(some 104), .call (.k (.c (.fn fn_member_Member_Turn [] []))) [(.t 103)], none⟩,
  ⟨(some 102), .mv (.t 104), none⟩,
  ⟨(some 105), .ext (.t 102) 0, none⟩,
  ⟨(some 106), .ext (.t 102) 1, none⟩,
  ⟨(some 9), .new 69 (.agg [(.int .i64 0), (.int .u16 0)]), none⟩,
  ⟨none, .st 2 (.t 9) (.t 105), none⟩,
  ⟨(some 10), .mv (.t 106), none⟩]
abbrev o_rotalaw09_MemberNames_17 : List IOper := [⟨(some 107), .mv (.t 1), none⟩,
  ⟨(some 108), .call (.k (.c (.fn fn_member_Member_Start [] []))) [(.t 107)], none⟩]
abbrev o_rotalaw09_MemberNames_18 : List IOper := [⟨(some 11), .mv (.k (.c (.int .i64 0))), none⟩]
abbrev o_rotalaw09_MemberNames_19 : List IOper := [⟨(some 109), .mv (.t 11), none⟩,
  ⟨(some 110), .bin .lss (.t 109) (.k (.c (.int .i64 8))), none⟩]
abbrev o_rotalaw09_MemberNames_20 : List IOper := [⟨(some 113), .mv (.t 11), none⟩,
  ⟨(some 114), .bin .rem (.t 113) (.k (.c (.int .i64 4))), none⟩,
  ⟨(some 115), .bin .eql (.t 114) (.k (.c (.int .i64 1))), none⟩]
abbrev o_rotalaw09_MemberNames_21 : List IOper := [⟨(some 116), .mv (.t 1), none⟩,
  ⟨(some 117), .call (.k (.c (.fn fn_member_Member_Turn [] []))) [(.t 116)], none⟩]
abbrev o_rotalaw09_MemberNames_22 : List IOper := [⟨(some 118), .mv (.t 1), none⟩,
  ⟨(some 119), .call (.k (.c (.fn fn_member_Member_Hear [] []))) [(.t 118), (.k (.c (.sl none 0 0 false))), (.k (.c (.bool true)))], none⟩]
abbrev o_rotalaw09_MemberNames_23 : List IOper := [⟨(some 111), .mv (.t 11), none⟩,
  ⟨(some 112), .bin .add (.t 111) (.k (.c (.int .i64 1))), none⟩,
  ⟨(some 11), .mv (.t 112), none⟩]
def b_rotalaw09_MemberNames_24 : IC := (.seq (.seq (.ops o_rotalaw09_MemberNames_19) (.cond (.t 110) .skip (.exit 2))) (.seq (.block 3 (.seq (.ops o_rotalaw09_MemberNames_20) (.cond (.t 115) (.ops o_rotalaw09_MemberNames_21) (.ops o_rotalaw09_MemberNames_22)))) (.ops o_rotalaw09_MemberNames_23)))
abbrev o_rotalaw09_MemberNames_25 : List IOper := [⟨(some 121), .mv (.t 1), none⟩,
  ⟨(some 122), .call (.k (.c (.fn fn_member_Member_Calm [] []))) [(.t 121)], none⟩,
  ⟨(some 120), .mv (.t 122), none⟩,
  ⟨(some 123), .ext (.t 120) 0, none⟩,
  ⟨(some 124), .ext (.t 120) 1, none⟩,
  ⟨(some 12), .mv (.t 123), none⟩,
  ⟨(some 13), .mv (.t 124), none⟩]
abbrev o_rotalaw09_MemberNames_26 : List IOper := [⟨(some 126), .mv (.t 1), none⟩,
  ⟨(some 127), .call (.k (.c (.fn fn_member_Member_Turn [] []))) [(.t 126)], none⟩,
  ⟨(some 125), .mv (.t 127), none⟩,
  ⟨(some 128), .ext (.t 125) 0, none⟩,
  ⟨(some 129), .ext (.t 125) 1, none⟩,
  ⟨(some 14), .new 69 (.agg [(.int .i64 0), (.int .u16 0)]), none⟩,
  ⟨none, .st 2 (.t 14) (.t 128), none⟩,
  ⟨(some 15), .mv (.t 129), none⟩]
abbrev o_rotalaw09_MemberNames_27 : List IOper := [⟨(some 130), .mv (.t 13), none⟩,
  ⟨(some 131), .bin .eql (.t 130) (.k (.c (.int .i64 8))), none⟩,
  ⟨(some 132), .mv (.t 131), none⟩,
  ⟨(some 133), .mv (.t 15), some (132, true)⟩,
  ⟨(some 134), .pick (.t 132) (.t 133) (.k (.c (.bool false))), none⟩,
  ⟨(some 135), .mv (.t 134), none⟩,
  ⟨(some 136), .ld (some 2) (.t 14), some (135, true)⟩,
  ⟨(some 137), .build [(.int .i64 0), (.int .u16 0)] [(0, 1, (.k (.c (.int .i64 1)))), (1, 1, (.k (.c (.int .u16 2))))], some (135, true)⟩,
  ⟨(some 138), .eqagg [.int, .int] false (.t 136) (.t 137), some (135, true)⟩,
  ⟨(some 139), .pick (.t 135) (.t 138) (.k (.c (.bool false))), none⟩,
  ⟨(some 140), .mv (.t 139), none⟩,
  ⟨(some 141), .mv (.t 1), some (140, true)⟩,
  ⟨(some 142), .call (.k (.c (.fn fn_member_Member_State [] []))) [(.t 141)], some (140, true)⟩,
  ⟨(some 143), .bin .eql (.t 142) (.k (.c (.int .i64 2))), some (140, true)⟩,
  ⟨(some 144), .pick (.t 140) (.t 143) (.k (.c (.bool false))), none⟩,
  ⟨(some 16), .mv (.t 144), none⟩]
abbrev o_rotalaw09_MemberNames_28 : List IOper := [⟨(some 145), .mv (.t 1), none⟩,
  ⟨(some 146), .call (.k (.c (.fn fn_member_Member_Start [] []))) [(.t 145)], none⟩]
abbrev o_rotalaw09_MemberNames_29 : List IOper := [⟨(some 148), .build [(.int .i64 0), (.int .u16 0)] [(0, 1, (.k (.c (.int .i64 6)))), (1, 1, (.k (.c (.int .u16 13))))], none⟩,
  ⟨(some 149), .build (List.replicate 2 (.int .i64 0) ++ [(.int .u16 0)] ++ List.replicate 64 (.int .u8 0)) [(0, 1, (.k (.c (.int .i64 2)))), (1, 2, (.t 148))], none⟩,
  ⟨(some 150), .call (.k (.c (.fn fn_frame_Encode [] []))) [(.t 149)], none⟩,
  ⟨(some 147), .mv (.t 150), none⟩,
  ⟨(some 151), .ext (.t 147) 0, none⟩,
  ⟨(some 152), .ext (.t 147) 1, none⟩,
  ⟨(some 17), .mv (.t 151), none⟩,
  ⟨(some 18), .mv (.t 152), none⟩]
abbrev o_rotalaw09_MemberNames_30 : List IOper := [⟨(some 154), .mv (.t 1), none⟩,
  ⟨(some 155), .mv (.t 17), none⟩,
  ⟨(some 156), .call (.k (.c (.fn fn_member_Member_Hear [] []))) [(.t 154), (.t 155), (.k (.c (.bool false)))], none⟩,
  ⟨(some 153), .mv (.t 156), none⟩,
  ⟨(some 157), .ext (.t 153) 0, none⟩,
  ⟨(some 158), .ext (.t 153) 1, none⟩,
  ⟨(some 19), .new 74 (.agg (List.replicate 2 (.int .i64 0) ++ [(.int .u16 0)] ++ List.replicate 64 (.int .u8 0))), none⟩,
  ⟨none, .st 67 (.t 19) (.t 157), none⟩,
  ⟨(some 20), .mv (.t 158), none⟩]
abbrev o_rotalaw09_MemberNames_31 : List IOper := [⟨(some 159), .mv (.t 1), none⟩,
  ⟨(some 160), .call (.k (.c (.fn fn_member_Member_Next [] []))) [(.t 159)], none⟩]
abbrev o_rotalaw09_MemberNames_32 : List IOper := [⟨(some 162), .mv (.t 1), none⟩,
  ⟨(some 163), .call (.k (.c (.fn fn_member_Member_Calm [] []))) [(.t 162)], none⟩,
  ⟨(some 161), .mv (.t 163), none⟩,
  ⟨(some 164), .ext (.t 161) 0, none⟩,
  ⟨(some 165), .ext (.t 161) 1, none⟩,
  ⟨(some 21), .mv (.t 164), none⟩,
  ⟨(some 22), .mv (.t 165), none⟩]
abbrev o_rotalaw09_MemberNames_33 : List IOper := [⟨(some 166), .mv (.t 20), none⟩,
  ⟨(some 167), .mv (.t 166), none⟩,
  ⟨(some 168), .fa 0 (.t 19), some (167, true)⟩,
  ⟨(some 169), .ld none (.t 168), some (167, true)⟩,
  ⟨(some 170), .bin .eql (.t 169) (.k (.c (.int .i64 2))), some (167, true)⟩,
  ⟨(some 171), .pick (.t 167) (.t 170) (.k (.c (.bool false))), none⟩,
  ⟨(some 172), .mv (.t 171), none⟩,
  ⟨(some 173), .mv (.t 1), some (172, true)⟩,
  ⟨(some 174), .call (.k (.c (.fn fn_member_Member_Slot [] []))) [(.t 173)], some (172, true)⟩,
  ⟨(some 175), .bin .eql (.t 174) (.k (.c (.int .i64 7))), some (172, true)⟩,
  ⟨(some 176), .pick (.t 172) (.t 175) (.k (.c (.bool false))), none⟩,
  ⟨(some 177), .mv (.t 176), none⟩,
  ⟨(some 178), .mv (.t 1), some (177, true)⟩,
  ⟨(some 179), .call (.k (.c (.fn fn_member_Member_Vector [] []))) [(.t 178)], some (177, true)⟩,
  ⟨(some 180), .bin .eql (.t 179) (.k (.c (.int .u16 13))), some (177, true)⟩,
  ⟨(some 181), .pick (.t 177) (.t 180) (.k (.c (.bool false))), none⟩,
  ⟨(some 182), .mv (.t 181), none⟩,
  ⟨(some 183), .mv (.t 21), some (182, true)⟩,
  ⟨(some 184), .bin .eql (.t 183) (.k (.c (.int .i64 1))), some (182, true)⟩,
  ⟨(some 185), .pick (.t 182) (.t 184) (.k (.c (.bool false))), none⟩,
  ⟨(some 186), .mv (.t 185), none⟩,
  ⟨(some 187), .mv (.t 1), some (186, true)⟩,
  ⟨(some 188), .call (.k (.c (.fn fn_member_Member_State [] []))) [(.t 187)], some (186, true)⟩,
  ⟨(some 189), .bin .eql (.t 188) (.k (.c (.int .i64 1))), some (186, true)⟩,
  ⟨(some 190), .pick (.t 186) (.t 189) (.k (.c (.bool false))), none⟩,
  ⟨(some 23), .mv (.t 190), none⟩]
abbrev o_rotalaw09_MemberNames_34 : List IOper := [⟨(some 191), .mv (.t 1), none⟩,
  ⟨(some 192), .call (.k (.c (.fn fn_member_Member_Hear [] []))) [(.t 191), (.k (.c (.sl none 0 0 false))), (.k (.c (.bool true)))], none⟩]
abbrev o_rotalaw09_MemberNames_35 : List IOper := [⟨(some 194), .mv (.t 1), none⟩,
  ⟨(some 195), .call (.k (.c (.fn fn_member_Member_Calm [] []))) [(.t 194)], none⟩,
  ⟨(some 193), .mv (.t 195), none⟩,
  ⟨(some 196), .ext (.t 193) 0, none⟩,
  ⟨(some 197), .ext (.t 193) 1, none⟩,
  ⟨(some 21), .mv (.t 196), none⟩]
abbrev o_rotalaw09_MemberNames_36 : List IOper := [⟨(some 198), .mv (.t 1), none⟩,
  ⟨(some 199), .call (.k (.c (.fn fn_member_Member_Vector [] []))) [(.t 198)], none⟩,
  ⟨(some 200), .bin .eql (.t 199) (.k (.c (.int .u16 5))), none⟩,
  ⟨(some 201), .mv (.t 200), none⟩,
  ⟨(some 202), .mv (.t 21), some (201, true)⟩,
  ⟨(some 203), .bin .eql (.t 202) (.k (.c (.int .i64 0))), some (201, true)⟩,
  ⟨(some 204), .pick (.t 201) (.t 203) (.k (.c (.bool false))), none⟩,
  ⟨(some 205), .mv (.t 204), none⟩,
  ⟨(some 206), .mv (.t 1), some (205, true)⟩,
  ⟨(some 207), .call (.k (.c (.fn fn_member_Member_Slot [] []))) [(.t 206)], some (205, true)⟩,
  ⟨(some 208), .bin .eql (.t 207) (.k (.c (.int .i64 7))), some (205, true)⟩,
  ⟨(some 209), .pick (.t 205) (.t 208) (.k (.c (.bool false))), none⟩,
  ⟨(some 24), .mv (.t 209), none⟩]
abbrev o_rotalaw09_MemberNames_37 : List IOper := [⟨(some 211), .build ([(.int .i64 0)] ++ [(.sl none 0 0 false)] ++ List.replicate 6 (.int .i64 0) ++ List.replicate 4 (.sl none 0 0 false)) [], none⟩,
  ⟨(some 212), .call (.k (.c (.fn fn_member_New [] []))) [(.t 211), (.k (.c (.int .i64 0)))], none⟩,
  ⟨(some 210), .mv (.t 212), none⟩,
  ⟨(some 213), .ext (.t 210) 0, none⟩,
  ⟨(some 214), .ext (.t 210) 1, none⟩,
  ⟨(some 25), .mv (.t 213), none⟩,
  ⟨(some 26), .mv (.t 214), none⟩]
abbrev o_rotalaw09_MemberNames_38 : List IOper := [⟨(some 216), .call (.k (.c (.fn fn_rotalaw07_Four [] []))) [], none⟩,
  ⟨(some 217), .call (.k (.c (.fn fn_member_New [] []))) [(.t 216), (.k (.c (.int .i64 4)))], none⟩,
  ⟨(some 215), .mv (.t 217), none⟩,
  ⟨(some 218), .ext (.t 215) 0, none⟩,
  ⟨(some 219), .ext (.t 215) 1, none⟩,
  ⟨(some 27), .mv (.t 218), none⟩,
  ⟨(some 28), .mv (.t 219), none⟩]
abbrev o_rotalaw09_MemberNames_39 : List IOper := [⟨(some 220), .mv (.t 1), none⟩,
  ⟨(some 221), .call (.k (.c (.fn fn_member_Member_Join [] []))) [(.t 220), (.k (.c (.int .i64 (-1))))], none⟩,
  ⟨(some 29), .mv (.t 221), none⟩]
abbrev o_rotalaw09_MemberNames_40 : List IOper := [⟨(some 222), .mv (.t 1), none⟩,
  ⟨(some 223), .call (.k (.c (.fn fn_member_Member_Join [] []))) [(.t 222), (.k (.c (.int .i64 2147483648)))], none⟩,
  ⟨(some 30), .mv (.t 223), none⟩]
abbrev o_rotalaw09_MemberNames_41 : List IOper := [⟨(some 224), .mv (.t 1), none⟩,
  ⟨(some 225), .call (.k (.c (.fn fn_member_Member_Join [] []))) [(.t 224), (.k (.c (.int .i64 2147483647)))], none⟩]
abbrev o_rotalaw09_MemberNames_42 : List IOper := [⟨(some 226), .mv (.t 1), none⟩,
  ⟨(some 227), .call (.k (.c (.fn fn_member_Member_Next [] []))) [(.t 226)], none⟩]
abbrev o_rotalaw09_MemberNames_43 : List IOper := [⟨(some 228), .mv (.t 1), none⟩,
  ⟨(some 229), .call (.k (.c (.fn fn_member_Member_State [] []))) [(.t 228)], none⟩,
  ⟨(some 230), .bin .eql (.t 229) (.k (.c (.int .i64 3))), none⟩,
  ⟨(some 231), .mv (.t 230), none⟩,
  ⟨(some 232), .mv (.t 26), some (231, true)⟩,
  ⟨(some 233), .bin .eql (.t 232) (.k (.c (.int .i64 21))), some (231, true)⟩,
  ⟨(some 234), .pick (.t 231) (.t 233) (.k (.c (.bool false))), none⟩,
  ⟨(some 235), .mv (.t 234), none⟩,
  ⟨(some 236), .mv (.t 28), some (235, true)⟩,
  ⟨(some 237), .bin .eql (.t 236) (.k (.c (.int .i64 2))), some (235, true)⟩,
  ⟨(some 238), .pick (.t 235) (.t 237) (.k (.c (.bool false))), none⟩,
  ⟨(some 239), .mv (.t 238), none⟩,
  ⟨(some 240), .mv (.t 29), some (239, true)⟩,
  ⟨(some 241), .bin .eql (.t 240) (.k (.c (.int .i64 2))), some (239, true)⟩,
  ⟨(some 242), .pick (.t 239) (.t 241) (.k (.c (.bool false))), none⟩,
  ⟨(some 243), .mv (.t 242), none⟩,
  ⟨(some 244), .mv (.t 30), some (243, true)⟩,
  ⟨(some 245), .bin .eql (.t 244) (.k (.c (.int .i64 2))), some (243, true)⟩,
  ⟨(some 246), .pick (.t 243) (.t 245) (.k (.c (.bool false))), none⟩,
  ⟨(some 31), .mv (.t 246), none⟩]
abbrev o_rotalaw09_MemberNames_44 : List IOper := [⟨(some 32), .mv (.k (.c (.ptr none))), none⟩]
abbrev o_rotalaw09_MemberNames_45 : List IOper := [⟨(some 247), .mv (.t 32), none⟩,
  ⟨(some 248), .call (.k (.c (.fn fn_member_Member_Start [] []))) [(.t 247)], none⟩,
  ⟨(some 33), .mv (.t 248), none⟩]
abbrev o_rotalaw09_MemberNames_46 : List IOper := [⟨(some 249), .mv (.t 32), none⟩,
  ⟨(some 250), .call (.k (.c (.fn fn_member_Member_Join [] []))) [(.t 249), (.k (.c (.int .i64 0)))], none⟩,
  ⟨(some 34), .mv (.t 250), none⟩]
abbrev o_rotalaw09_MemberNames_47 : List IOper := [⟨(some 251), .mv (.t 32), none⟩,
  ⟨(some 252), .call (.k (.c (.fn fn_member_Member_Next [] []))) [(.t 251)], none⟩,
  ⟨(some 35), .mv (.t 252), none⟩]
abbrev o_rotalaw09_MemberNames_48 : List IOper := [⟨(some 254), .mv (.t 32), none⟩,
  ⟨(some 255), .call (.k (.c (.fn fn_member_Member_Turn [] []))) [(.t 254)], none⟩,
  ⟨(some 253), .mv (.t 255), none⟩,
  ⟨(some 256), .ext (.t 253) 0, none⟩,
  ⟨(some 257), .ext (.t 253) 1, none⟩,
  ⟨(some 8), .mv (.t 257), none⟩]
abbrev o_rotalaw09_MemberNames_49 : List IOper := [⟨(some 259), .mv (.t 32), none⟩,
  ⟨(some 260), .call (.k (.c (.fn fn_member_Member_Hear [] []))) [(.t 259), (.k (.c (.sl none 0 0 false))), (.k (.c (.bool true)))], none⟩,
  ⟨(some 258), .mv (.t 260), none⟩,
  ⟨(some 261), .ext (.t 258) 0, none⟩,
  ⟨(some 262), .ext (.t 258) 1, none⟩,
  ⟨(some 36), .new 74 (.agg (List.replicate 2 (.int .i64 0) ++ [(.int .u16 0)] ++ List.replicate 64 (.int .u8 0))), none⟩,
  ⟨none, .st 67 (.t 36) (.t 261), none⟩,
  ⟨(some 37), .mv (.t 262), none⟩]
abbrev o_rotalaw09_MemberNames_50 : List IOper := [⟨(some 263), .mv (.k (.c (.bool true))), none⟩,
  ⟨(some 264), .call (.k (.c (.fn fn_rotalaw09_alive [] []))) [], some (263, true)⟩,
  ⟨(some 265), .pick (.t 263) (.t 264) (.k (.c (.bool false))), none⟩,
  ⟨(some 266), .mv (.t 265), none⟩,
  ⟨(some 267), .mv (.t 3), some (266, true)⟩,
  ⟨(some 268), .pick (.t 266) (.t 267) (.k (.c (.bool false))), none⟩,
  ⟨(some 269), .mv (.t 268), none⟩,
  ⟨(some 270), .mv (.t 10), some (269, true)⟩,
  ⟨(some 271), .un .not (.t 270), some (269, true)⟩,
  ⟨(some 272), .pick (.t 269) (.t 271) (.k (.c (.bool false))), none⟩,
  ⟨(some 273), .mv (.t 272), none⟩,
  ⟨(some 274), .mv (.t 16), some (273, true)⟩,
  ⟨(some 275), .pick (.t 273) (.t 274) (.k (.c (.bool false))), none⟩,
  ⟨(some 276), .mv (.t 275), none⟩,
  ⟨(some 277), .mv (.t 23), some (276, true)⟩,
  ⟨(some 278), .pick (.t 276) (.t 277) (.k (.c (.bool false))), none⟩,
  ⟨(some 279), .mv (.t 278), none⟩,
  ⟨(some 280), .mv (.t 24), some (279, true)⟩,
  ⟨(some 281), .pick (.t 279) (.t 280) (.k (.c (.bool false))), none⟩,
  ⟨(some 282), .mv (.t 281), none⟩,
  ⟨(some 283), .mv (.t 31), some (282, true)⟩,
  ⟨(some 284), .pick (.t 282) (.t 283) (.k (.c (.bool false))), none⟩,
  ⟨(some 285), .mv (.t 284), none⟩,
  ⟨(some 286), .mv (.t 33), some (285, true)⟩,
  ⟨(some 287), .bin .eql (.t 286) (.k (.c (.int .i64 1))), some (285, true)⟩,
  ⟨(some 288), .pick (.t 285) (.t 287) (.k (.c (.bool false))), none⟩,
  ⟨(some 289), .mv (.t 288), none⟩,
  ⟨(some 290), .mv (.t 34), some (289, true)⟩,
  ⟨(some 291), .bin .eql (.t 290) (.k (.c (.int .i64 1))), some (289, true)⟩,
  ⟨(some 292), .pick (.t 289) (.t 291) (.k (.c (.bool false))), none⟩,
  ⟨(some 293), .mv (.t 292), none⟩,
  ⟨(some 294), .mv (.t 35), some (293, true)⟩,
  ⟨(some 295), .bin .eql (.t 294) (.k (.c (.int .i64 1))), some (293, true)⟩,
  ⟨(some 296), .pick (.t 293) (.t 295) (.k (.c (.bool false))), none⟩,
  ⟨(some 297), .mv (.t 296), none⟩,
  ⟨(some 298), .mv (.t 8), some (297, true)⟩,
  ⟨(some 299), .un .not (.t 298), some (297, true)⟩,
  ⟨(some 300), .pick (.t 297) (.t 299) (.k (.c (.bool false))), none⟩,
  ⟨(some 301), .mv (.t 300), none⟩,
  ⟨(some 302), .mv (.t 37), some (301, true)⟩,
  ⟨(some 303), .un .not (.t 302), some (301, true)⟩,
  ⟨(some 304), .pick (.t 301) (.t 303) (.k (.c (.bool false))), none⟩,
  ⟨(some 305), .mv (.t 304), none⟩,
  ⟨(some 306), .mv (.t 32), some (305, true)⟩,
  ⟨(some 307), .call (.k (.c (.fn fn_member_Member_Slot [] []))) [(.t 306)], some (305, true)⟩,
  ⟨(some 308), .bin .eql (.t 307) (.k (.c (.int .i64 (-1)))), some (305, true)⟩,
  ⟨(some 309), .pick (.t 305) (.t 308) (.k (.c (.bool false))), none⟩,
  ⟨(some 310), .mv (.t 309), none⟩,
  ⟨(some 311), .mv (.t 32), some (310, true)⟩,
  ⟨(some 312), .call (.k (.c (.fn fn_member_Member_State [] []))) [(.t 311)], some (310, true)⟩,
  ⟨(some 313), .bin .eql (.t 312) (.k (.c (.int .i64 0))), some (310, true)⟩,
  ⟨(some 314), .pick (.t 310) (.t 313) (.k (.c (.bool false))), none⟩,
  ⟨(some 315), .mv (.t 314), none⟩,
  ⟨(some 316), .mv (.t 32), some (315, true)⟩,
  ⟨(some 317), .call (.k (.c (.fn fn_member_Member_Vector [] []))) [(.t 316)], some (315, true)⟩,
  ⟨(some 318), .bin .eql (.t 317) (.k (.c (.int .u16 0))), some (315, true)⟩,
  ⟨(some 319), .pick (.t 315) (.t 318) (.k (.c (.bool false))), none⟩,
  ⟨(some 0), .mv (.t 319), none⟩]
def c_rotalaw09_MemberNames : IC := (.seq (.ops o_rotalaw09_MemberNames_0) (.seq (.ops o_rotalaw09_MemberNames_1) (.seq (.ops o_rotalaw09_MemberNames_2) (.seq (.ops o_rotalaw09_MemberNames_3) (.seq (.ops o_rotalaw09_MemberNames_4) (.seq (.ops o_rotalaw09_MemberNames_5) (.seq (.ops o_rotalaw09_MemberNames_6) (.seq (.seq (.ops o_rotalaw09_MemberNames_7) (.block 0 (.loop b_rotalaw09_MemberNames_12))) (.seq (.ops o_rotalaw09_MemberNames_13) (.seq (.ops o_rotalaw09_MemberNames_14) (.seq (.ops o_rotalaw09_MemberNames_15) (.seq (.ops o_rotalaw09_MemberNames_16) (.seq (.ops o_rotalaw09_MemberNames_17) (.seq (.seq (.ops o_rotalaw09_MemberNames_18) (.block 2 (.loop b_rotalaw09_MemberNames_24))) (.seq (.ops o_rotalaw09_MemberNames_25) (.seq (.ops o_rotalaw09_MemberNames_26) (.seq (.ops o_rotalaw09_MemberNames_27) (.seq (.ops o_rotalaw09_MemberNames_28) (.seq (.ops o_rotalaw09_MemberNames_29) (.seq (.ops o_rotalaw09_MemberNames_30) (.seq (.ops o_rotalaw09_MemberNames_31) (.seq (.ops o_rotalaw09_MemberNames_32) (.seq (.ops o_rotalaw09_MemberNames_33) (.seq (.ops o_rotalaw09_MemberNames_34) (.seq (.ops o_rotalaw09_MemberNames_35) (.seq (.ops o_rotalaw09_MemberNames_36) (.seq (.ops o_rotalaw09_MemberNames_37) (.seq (.ops o_rotalaw09_MemberNames_38) (.seq (.ops o_rotalaw09_MemberNames_39) (.seq (.ops o_rotalaw09_MemberNames_40) (.seq (.ops o_rotalaw09_MemberNames_41) (.seq (.ops o_rotalaw09_MemberNames_42) (.seq (.ops o_rotalaw09_MemberNames_43) (.seq (.ops o_rotalaw09_MemberNames_44) (.seq (.ops o_rotalaw09_MemberNames_45) (.seq (.ops o_rotalaw09_MemberNames_46) (.seq (.ops o_rotalaw09_MemberNames_47) (.seq (.ops o_rotalaw09_MemberNames_48) (.seq (.ops o_rotalaw09_MemberNames_49) (.seq (.ops o_rotalaw09_MemberNames_50) .ret))))))))))))))))))))))))))))))))))))))))
def i_rotalaw09_MemberNames : IFn := ⟨320, c_rotalaw09_MemberNames, [(0, none)]⟩

-- F 8 rota/rotalaw09.alive: bads 0, calls [21, 14, 22, 25, 24, 10, 28, 23, 19]
abbrev o_rotalaw09_alive_0 : List IOper := [⟨(some 0), .mv (.k (.c (.bool false))), none⟩]
abbrev o_rotalaw09_alive_1 : List IOper := [⟨(some 11), .call (.k (.c (.fn fn_rotalaw07_Four [] []))) [], none⟩,
  ⟨(some 12), .call (.k (.c (.fn fn_member_New [] []))) [(.t 11), (.k (.c (.int .i64 1)))], none⟩,
  ⟨(some 10), .mv (.t 12), none⟩,
  ⟨(some 13), .ext (.t 10) 0, none⟩,
  ⟨(some 14), .ext (.t 10) 1, none⟩,
  ⟨(some 1), .mv (.t 13), none⟩,
  ⟨(some 2), .mv (.t 14), none⟩]
abbrev o_rotalaw09_alive_2 : List IOper := [⟨(some 15), .mv (.t 1), none⟩,
  ⟨(some 16), .call (.k (.c (.fn fn_member_Member_Join [] []))) [(.t 15), (.k (.c (.int .i64 0)))], none⟩]
abbrev o_rotalaw09_alive_3 : List IOper := [⟨(some 18), .mv (.t 1), none⟩,
  ⟨(some 19), .call (.k (.c (.fn fn_member_Member_Hear [] []))) [(.t 18), (.k (.c (.sl none 0 0 false))), (.k (.c (.bool true)))], none⟩,
  ⟨(some 17), .mv (.t 19), none⟩,
  ⟨(some 20), .ext (.t 17) 0, none⟩,
  ⟨(some 21), .ext (.t 17) 1, none⟩,
  ⟨(some 3), .new 74 (.agg (List.replicate 2 (.int .i64 0) ++ [(.int .u16 0)] ++ List.replicate 64 (.int .u8 0))), none⟩,
  ⟨none, .st 67 (.t 3) (.t 20), none⟩,
  ⟨(some 4), .mv (.t 21), none⟩]
abbrev o_rotalaw09_alive_4 : List IOper := [⟨(some 22), .mv (.t 1), none⟩,
  ⟨(some 23), .call (.k (.c (.fn fn_member_Member_Next [] []))) [(.t 22)], none⟩]
abbrev o_rotalaw09_alive_5 : List IOper := [⟨(some 24), .mv (.t 1), none⟩,
  ⟨(some 25), .call (.k (.c (.fn fn_member_Member_Vector [] []))) [(.t 24)], none⟩,
  ⟨(some 5), .mv (.t 25), none⟩]
abbrev o_rotalaw09_alive_6 : List IOper := [⟨(some 27), .mv (.t 1), none⟩,
  ⟨(some 28), .call (.k (.c (.fn fn_member_Member_Counts [] []))) [(.t 27)], none⟩,
  ⟨(some 26), .mv (.t 28), none⟩,
  ⟨(some 29), .ext (.t 26) 0, none⟩,
  ⟨(some 30), .ext (.t 26) 1, none⟩,
  ⟨(some 6), .mv (.t 29), none⟩,
  ⟨(some 7), .mv (.t 30), none⟩]
abbrev o_rotalaw09_alive_7 : List IOper := [⟨(some 32), .mv (.t 1), none⟩,
  ⟨(some 33), .call (.k (.c (.fn fn_member_Member_Turn [] []))) [(.t 32)], none⟩,
  ⟨(some 31), .mv (.t 33), none⟩,
  ⟨(some 34), .ext (.t 31) 0, none⟩,
  ⟨(some 35), .ext (.t 31) 1, none⟩,
  ⟨(some 8), .new 69 (.agg [(.int .i64 0), (.int .u16 0)]), none⟩,
  ⟨none, .st 2 (.t 8) (.t 34), none⟩,
  ⟨(some 9), .mv (.t 35), none⟩]
abbrev o_rotalaw09_alive_8 : List IOper := [⟨(some 36), .mv (.t 2), none⟩,
  ⟨(some 37), .bin .eql (.t 36) (.k (.c (.int .i64 0))), none⟩,
  ⟨(some 38), .mv (.t 37), none⟩,
  ⟨(some 39), .mv (.t 4), some (38, true)⟩,
  ⟨(some 40), .un .not (.t 39), some (38, true)⟩,
  ⟨(some 41), .pick (.t 38) (.t 40) (.k (.c (.bool false))), none⟩,
  ⟨(some 42), .mv (.t 41), none⟩,
  ⟨(some 43), .mv (.t 5), some (42, true)⟩,
  ⟨(some 44), .bin .eql (.t 43) (.k (.c (.int .u16 14))), some (42, true)⟩,
  ⟨(some 45), .pick (.t 42) (.t 44) (.k (.c (.bool false))), none⟩,
  ⟨(some 46), .mv (.t 45), none⟩,
  ⟨(some 47), .mv (.t 6), some (46, true)⟩,
  ⟨(some 48), .bin .eql (.t 47) (.k (.c (.int .i64 4))), some (46, true)⟩,
  ⟨(some 49), .pick (.t 46) (.t 48) (.k (.c (.bool false))), none⟩,
  ⟨(some 50), .mv (.t 49), none⟩,
  ⟨(some 51), .mv (.t 7), some (50, true)⟩,
  ⟨(some 52), .bin .eql (.t 51) (.k (.c (.int .i64 1))), some (50, true)⟩,
  ⟨(some 53), .pick (.t 50) (.t 52) (.k (.c (.bool false))), none⟩,
  ⟨(some 54), .mv (.t 53), none⟩,
  ⟨(some 55), .mv (.t 9), some (54, true)⟩,
  ⟨(some 56), .pick (.t 54) (.t 55) (.k (.c (.bool false))), none⟩,
  ⟨(some 57), .mv (.t 56), none⟩,
  ⟨(some 58), .ld (some 2) (.t 8), some (57, true)⟩,
  ⟨(some 59), .build [(.int .i64 0), (.int .u16 0)] [(0, 1, (.k (.c (.int .i64 1)))), (1, 1, (.k (.c (.int .u16 14))))], some (57, true)⟩,
  ⟨(some 60), .eqagg [.int, .int] false (.t 58) (.t 59), some (57, true)⟩,
  ⟨(some 61), .pick (.t 57) (.t 60) (.k (.c (.bool false))), none⟩,
  ⟨(some 62), .mv (.t 61), none⟩,
  ⟨(some 63), .mv (.t 1), some (62, true)⟩,
  ⟨(some 64), .call (.k (.c (.fn fn_member_Member_State [] []))) [(.t 63)], some (62, true)⟩,
  ⟨(some 65), .bin .eql (.t 64) (.k (.c (.int .i64 2))), some (62, true)⟩,
  ⟨(some 66), .pick (.t 62) (.t 65) (.k (.c (.bool false))), none⟩,
  ⟨(some 0), .mv (.t 66), none⟩]
def c_rotalaw09_alive : IC := (.seq (.ops o_rotalaw09_alive_0) (.seq (.ops o_rotalaw09_alive_1) (.seq (.ops o_rotalaw09_alive_2) (.seq (.ops o_rotalaw09_alive_3) (.seq (.ops o_rotalaw09_alive_4) (.seq (.ops o_rotalaw09_alive_5) (.seq (.ops o_rotalaw09_alive_6) (.seq (.ops o_rotalaw09_alive_7) (.seq (.ops o_rotalaw09_alive_8) .ret)))))))))
def i_rotalaw09_alive : IFn := ⟨67, c_rotalaw09_alive, [(0, none)]⟩

-- F 9 rota/rotalaw09.made: bads 0, calls [14, 22]
abbrev o_rotalaw09_made_0 : List IOper := [⟨(some 2), .box 28 (.t 0), none⟩,
  ⟨(some 4), .mv (.k (.c (.ptr none))), none⟩,
  ⟨(some 5), .mv (.k (.c (.bool false))), none⟩]
abbrev o_rotalaw09_made_1 : List IOper := [⟨(some 10), .ld (some 12) (.t 2), none⟩,
  ⟨(some 11), .build ([(.int .i64 0)] ++ [(.sl none 0 0 false)] ++ List.replicate 6 (.int .i64 0) ++ List.replicate 5 (.sl none 0 0 false) ++ [(.int .i64 0)] ++ [(.bool false)]) [(0, 12, (.t 10)), (14, 1, (.k (.c (.bool true))))], none⟩,
  ⟨(some 12), .box 39 (.t 11), none⟩,
  ⟨(some 6), .mv (.t 12), none⟩]
abbrev o_rotalaw09_made_2 : List IOper := [⟨(some 7), .mv (.k (.c (.int .i64 0))), none⟩]
abbrev o_rotalaw09_made_3 : List IOper := [⟨(some 13), .mv (.t 7), none⟩,
  ⟨(some 14), .fa 0 (.t 2), none⟩,
  ⟨(some 15), .ld none (.t 14), none⟩,
  ⟨(some 16), .bin .lss (.t 13) (.t 15), none⟩,
  ⟨(some 17), .mv (.t 16), none⟩,
  ⟨(some 18), .mv (.t 7), some (17, true)⟩,
  ⟨(some 19), .bin .lss (.t 18) (.k (.c (.int .i64 16))), some (17, true)⟩,
  ⟨(some 20), .pick (.t 17) (.t 19) (.k (.c (.bool false))), none⟩]
abbrev o_rotalaw09_made_4 : List IOper := [⟨(some 24), .ld (some 12) (.t 2), none⟩,
  ⟨(some 25), .mv (.t 7), none⟩,
  ⟨(some 26), .call (.k (.c (.fn fn_member_New [] []))) [(.t 24), (.t 25)], none⟩,
  ⟨(some 23), .mv (.t 26), none⟩,
  ⟨(some 27), .ext (.t 23) 0, none⟩,
  ⟨(some 28), .ext (.t 23) 1, none⟩,
  ⟨(some 8), .mv (.t 27), none⟩,
  ⟨(some 9), .mv (.t 28), none⟩]
abbrev o_rotalaw09_made_5 : List IOper := [⟨(some 29), .mv (.t 9), none⟩,
  ⟨(some 30), .bin .neq (.t 29) (.k (.c (.int .i64 0))), none⟩]
abbrev o_rotalaw09_made_6 : List IOper := [⟨(some 4), .mv (.k (.c (.ptr none))), none⟩,
  ⟨(some 5), .mv (.k (.c (.bool false))), none⟩]
abbrev o_rotalaw09_made_7 : List IOper := [⟨(some 31), .mv (.t 1), none⟩]
abbrev o_rotalaw09_made_8 : List IOper := [⟨(some 32), .mv (.t 8), none⟩,
  ⟨(some 33), .call (.k (.c (.fn fn_member_Member_Join [] []))) [(.t 32), (.k (.c (.int .i64 0)))], none⟩]
abbrev o_rotalaw09_made_9 : List IOper := [⟨(some 34), .mv (.t 6), none⟩,
  ⟨(some 35), .mv (.t 6), none⟩,
  ⟨(some 36), .nilck (.t 35), none⟩,
  ⟨(some 37), .fa 12 (.t 36), none⟩,
  ⟨(some 38), .ld none (.t 37), none⟩,
  ⟨(some 39), .mv (.t 8), none⟩,
  ⟨(some 40), .bsl 36 1 [(.ptr none)] [(0, 1, (.t 39))], none⟩,
  ⟨(some 41), .app 36 1 8 (.t 38) (.t 40), none⟩,
  ⟨(some 42), .nilck (.t 34), none⟩,
  ⟨(some 43), .fa 12 (.t 42), none⟩,
  ⟨none, .st 1 (.t 43) (.t 41), none⟩]
abbrev o_rotalaw09_made_10 : List IOper := [⟨(some 21), .mv (.t 7), none⟩,
  ⟨(some 22), .bin .add (.t 21) (.k (.c (.int .i64 1))), none⟩,
  ⟨(some 7), .mv (.t 22), none⟩]
def b_rotalaw09_made_11 : IC := (.seq (.seq (.ops o_rotalaw09_made_3) (.cond (.t 20) .skip (.exit 0))) (.seq (.block 1 (.seq (.ops o_rotalaw09_made_4) (.seq (.seq (.ops o_rotalaw09_made_5) (.cond (.t 30) (.seq (.ops o_rotalaw09_made_6) .ret) .skip)) (.seq (.seq (.ops o_rotalaw09_made_7) (.cond (.t 31) (.ops o_rotalaw09_made_8) .skip)) (.ops o_rotalaw09_made_9))))) (.ops o_rotalaw09_made_10)))
abbrev o_rotalaw09_made_12 : List IOper := [⟨(some 44), .mv (.t 6), none⟩,
  ⟨(some 45), .mv (.t 6), none⟩,
  ⟨(some 46), .nilck (.t 45), none⟩,
  ⟨(some 47), .fa 12 (.t 46), none⟩,
  ⟨(some 48), .ld none (.t 47), none⟩,
  ⟨(some 49), .len false (.t 48), none⟩,
  ⟨(some 50), .bin .gtr (.t 49) (.k (.c (.int .i64 0))), none⟩,
  ⟨(some 4), .mv (.t 44), none⟩,
  ⟨(some 5), .mv (.t 50), none⟩]
def c_rotalaw09_made : IC := (.seq (.ops o_rotalaw09_made_0) (.seq (.ops o_rotalaw09_made_1) (.seq (.seq (.ops o_rotalaw09_made_2) (.block 0 (.loop b_rotalaw09_made_11))) (.seq (.ops o_rotalaw09_made_12) .ret))))
def i_rotalaw09_made : IFn := ⟨51, c_rotalaw09_made, [(4, none), (5, none)]⟩

-- F 10 (*rota/member.Member).Vector: bads 0, calls [29]
abbrev o_member_Member_Vector_0 : List IOper := [⟨(some 2), .mv (.k (.c (.int .u16 0))), none⟩]
abbrev o_member_Member_Vector_1 : List IOper := [⟨(some 3), .mv (.t 0), none⟩,
  ⟨(some 4), .call (.k (.c (.fn fn_member_Member_none [] []))) [(.t 3)], none⟩]
abbrev o_member_Member_Vector_2 : List IOper := [⟨(some 2), .mv (.k (.c (.int .u16 0))), none⟩]
abbrev o_member_Member_Vector_3 : List IOper := [⟨(some 5), .mv (.t 0), none⟩,
  ⟨(some 6), .nilck (.t 5), none⟩,
  ⟨(some 7), .fa 15 (.t 6), none⟩,
  ⟨(some 8), .ld none (.t 7), none⟩,
  ⟨(some 2), .mv (.t 8), none⟩]
def c_member_Member_Vector : IC := (.seq (.ops o_member_Member_Vector_0) (.seq (.seq (.ops o_member_Member_Vector_1) (.cond (.t 4) (.seq (.ops o_member_Member_Vector_2) .ret) .skip)) (.seq (.ops o_member_Member_Vector_3) .ret)))
def i_member_Member_Vector : IFn := ⟨9, c_member_Member_Vector, [(2, none)]⟩

-- F 11 (*rota/rotalaw09.ghost).event: bads 0, calls [30, 30, 30, 30]
abbrev o_rotalaw09_ghost_event_0 : List IOper := [⟨(some 6), .mv (.k (.c (.int .u16 0))), none⟩]
abbrev o_rotalaw09_ghost_event_1 : List IOper := [⟨(some 9), .mv (.t 1), none⟩,
  ⟨(some 10), .nilck (.t 9), none⟩,
  ⟨(some 11), .fa 0 (.t 10), none⟩,
  ⟨(some 12), .fa 1 (.t 11), none⟩,
  ⟨(some 13), .ld none (.t 12), none⟩,
  ⟨(some 14), .mv (.t 1), none⟩,
  ⟨(some 15), .nilck (.t 14), none⟩,
  ⟨(some 16), .fa 13 (.t 15), none⟩,
  ⟨(some 17), .ld none (.t 16), none⟩,
  ⟨(some 18), .mv (.t 1), none⟩,
  ⟨(some 19), .nilck (.t 18), none⟩,
  ⟨(some 20), .fa 0 (.t 19), none⟩,
  ⟨(some 21), .fa 0 (.t 20), none⟩,
  ⟨(some 22), .ld none (.t 21), none⟩,
  ⟨(some 23), .bin .rem (.t 17) (.t 22), none⟩,
  ⟨(some 24), .iaS 1 (.t 13) (.t 23), none⟩,
  ⟨(some 25), .ld none (.t 24), none⟩,
  ⟨(some 26), .bin .shl (.k (.c (.int .u16 1))) (.t 25), none⟩,
  ⟨(some 7), .mv (.t 26), none⟩]
abbrev o_rotalaw09_ghost_event_2 : List IOper := [⟨(some 27), .mv (.t 2), none⟩,
  ⟨(some 28), .mv (.t 0), none⟩,
  ⟨(some 29), .nilck (.t 28), none⟩,
  ⟨(some 30), .fa 0 (.t 29), none⟩,
  ⟨(some 31), .ld none (.t 30), none⟩,
  ⟨(some 32), .bin .and (.t 27) (.t 31), none⟩,
  ⟨(some 33), .mv (.t 7), none⟩,
  ⟨(some 34), .bin .andNot (.t 32) (.t 33), none⟩,
  ⟨(some 8), .mv (.t 34), none⟩]
abbrev o_rotalaw09_ghost_event_3 : List IOper := [⟨(some 39), .mv (.t 7), none⟩,
  ⟨(some 35), .mv (.t 0), none⟩,
  ⟨(some 36), .nilck (.t 35), none⟩,
  ⟨(some 37), .fa 0 (.t 36), none⟩,
  ⟨(some 38), .ld none (.t 37), none⟩,
  ⟨(some 40), .bin .and (.t 38) (.t 39), none⟩,
  ⟨(some 41), .bin .eql (.t 40) (.k (.c (.int .u16 0))), none⟩,
  ⟨(some 42), .mv (.t 41), none⟩,
  ⟨(some 43), .mv (.t 8), some (42, false)⟩,
  ⟨(some 44), .bin .eql (.t 43) (.k (.c (.int .u16 0))), some (42, false)⟩,
  ⟨(some 45), .pick (.t 42) (.k (.c (.bool true))) (.t 44), none⟩,
  ⟨(some 46), .mv (.t 45), none⟩,
  ⟨(some 55), .mv (.t 1), some (46, false)⟩,
  ⟨(some 56), .nilck (.t 55), some (46, false)⟩,
  ⟨(some 57), .fa 0 (.t 56), some (46, false)⟩,
  ⟨(some 58), .fa 0 (.t 57), some (46, false)⟩,
  ⟨(some 59), .ld none (.t 58), some (46, false)⟩,
  ⟨(some 60), .bin .mul (.k (.c (.int .i64 2))) (.t 59), some (46, false)⟩,
  ⟨(some 51), .mv (.t 0), some (46, false)⟩,
  ⟨(some 52), .nilck (.t 51), some (46, false)⟩,
  ⟨(some 53), .fa 1 (.t 52), some (46, false)⟩,
  ⟨(some 54), .ld none (.t 53), some (46, false)⟩,
  ⟨(some 61), .bin .add (.t 54) (.t 60), some (46, false)⟩,
  ⟨(some 47), .mv (.t 1), some (46, false)⟩,
  ⟨(some 48), .nilck (.t 47), some (46, false)⟩,
  ⟨(some 49), .fa 13 (.t 48), some (46, false)⟩,
  ⟨(some 50), .ld none (.t 49), some (46, false)⟩,
  ⟨(some 62), .bin .leq (.t 50) (.t 61), some (46, false)⟩,
  ⟨(some 63), .pick (.t 46) (.k (.c (.bool true))) (.t 62), none⟩,
  ⟨(some 64), .mv (.t 63), none⟩,
  ⟨(some 68), .mv (.t 0), some (64, false)⟩,
  ⟨(some 69), .nilck (.t 68), some (64, false)⟩,
  ⟨(some 70), .fa 0 (.t 69), some (64, false)⟩,
  ⟨(some 71), .ld none (.t 70), some (64, false)⟩,
  ⟨(some 65), .mv (.t 8), some (64, false)⟩,
  ⟨(some 66), .call (.k (.c (.fn fn_rotalaw09_count [] []))) [(.t 65)], some (64, false)⟩,
  ⟨none, .same (some none) (.t 70) (.t 71), some (64, false)⟩,
  ⟨(some 67), .bin .mul (.k (.c (.int .i64 2))) (.t 66), some (64, false)⟩,
  ⟨(some 72), .call (.k (.c (.fn fn_rotalaw09_count [] []))) [(.t 71)], some (64, false)⟩,
  ⟨(some 73), .bin .eql (.t 67) (.t 72), some (64, false)⟩,
  ⟨(some 74), .pick (.t 64) (.k (.c (.bool true))) (.t 73), none⟩]
abbrev o_rotalaw09_ghost_event_4 : List IOper := [⟨(some 6), .mv (.k (.c (.int .u16 0))), none⟩]
abbrev o_rotalaw09_ghost_event_5 : List IOper := [⟨(some 75), .mv (.t 0), none⟩,
  ⟨(some 76), .mv (.t 1), none⟩,
  ⟨(some 77), .nilck (.t 76), none⟩,
  ⟨(some 78), .fa 13 (.t 77), none⟩,
  ⟨(some 79), .ld none (.t 78), none⟩,
  ⟨(some 80), .nilck (.t 75), none⟩,
  ⟨(some 81), .fa 1 (.t 80), none⟩,
  ⟨none, .st 1 (.t 81) (.t 79), none⟩]
abbrev o_rotalaw09_ghost_event_6 : List IOper := [⟨(some 82), .mv (.t 0), none⟩,
  ⟨(some 83), .mv (.t 0), none⟩,
  ⟨(some 84), .nilck (.t 83), none⟩,
  ⟨(some 85), .fa 0 (.t 84), none⟩,
  ⟨(some 86), .ld none (.t 85), none⟩,
  ⟨(some 87), .mv (.t 8), none⟩,
  ⟨(some 88), .bin .andNot (.t 86) (.t 87), none⟩,
  ⟨(some 89), .nilck (.t 82), none⟩,
  ⟨(some 90), .fa 2 (.t 89), none⟩,
  ⟨none, .st 1 (.t 90) (.t 88), none⟩]
abbrev o_rotalaw09_ghost_event_7 : List IOper := [⟨(some 94), .mv (.t 0), none⟩,
  ⟨(some 95), .nilck (.t 94), none⟩,
  ⟨(some 96), .fa 0 (.t 95), none⟩,
  ⟨(some 97), .ld none (.t 96), none⟩,
  ⟨(some 91), .mv (.t 8), none⟩,
  ⟨(some 92), .call (.k (.c (.fn fn_rotalaw09_count [] []))) [(.t 91)], none⟩,
  ⟨none, .same (some none) (.t 96) (.t 97), none⟩,
  ⟨(some 93), .bin .mul (.k (.c (.int .i64 2))) (.t 92), none⟩,
  ⟨(some 98), .call (.k (.c (.fn fn_rotalaw09_count [] []))) [(.t 97)], none⟩,
  ⟨(some 99), .bin .lss (.t 93) (.t 98), none⟩]
abbrev o_rotalaw09_ghost_event_8 : List IOper := [⟨(some 100), .mv (.t 0), none⟩,
  ⟨(some 101), .mv (.t 8), none⟩,
  ⟨(some 102), .nilck (.t 100), none⟩,
  ⟨(some 103), .fa 2 (.t 102), none⟩,
  ⟨none, .st 1 (.t 103) (.t 101), none⟩]
abbrev o_rotalaw09_ghost_event_9 : List IOper := [⟨(some 104), .mv (.t 0), none⟩,
  ⟨(some 105), .mv (.t 0), none⟩,
  ⟨(some 106), .nilck (.t 105), none⟩,
  ⟨(some 107), .fa 0 (.t 106), none⟩,
  ⟨(some 108), .ld none (.t 107), none⟩,
  ⟨(some 109), .mv (.t 0), none⟩,
  ⟨(some 110), .nilck (.t 109), none⟩,
  ⟨(some 111), .fa 2 (.t 110), none⟩,
  ⟨(some 112), .ld none (.t 111), none⟩,
  ⟨(some 113), .bin .andNot (.t 108) (.t 112), none⟩,
  ⟨(some 114), .nilck (.t 104), none⟩,
  ⟨(some 115), .fa 0 (.t 114), none⟩,
  ⟨none, .st 1 (.t 115) (.t 113), none⟩]
abbrev o_rotalaw09_ghost_event_10 : List IOper := [⟨(some 116), .mv (.t 8), none⟩,
  ⟨(some 6), .mv (.t 116), none⟩]
def c_rotalaw09_ghost_event : IC := (.seq (.ops o_rotalaw09_ghost_event_0) (.seq (.ops o_rotalaw09_ghost_event_1) (.seq (.ops o_rotalaw09_ghost_event_2) (.seq (.seq (.ops o_rotalaw09_ghost_event_3) (.cond (.t 74) (.seq (.ops o_rotalaw09_ghost_event_4) .ret) .skip)) (.seq (.ops o_rotalaw09_ghost_event_5) (.seq (.ops o_rotalaw09_ghost_event_6) (.seq (.seq (.ops o_rotalaw09_ghost_event_7) (.cond (.t 99) (.ops o_rotalaw09_ghost_event_8) .skip)) (.seq (.ops o_rotalaw09_ghost_event_9) (.seq (.ops o_rotalaw09_ghost_event_10) .ret)))))))))
def i_rotalaw09_ghost_event : IFn := ⟨117, c_rotalaw09_ghost_event, [(6, none)]⟩

-- F 12 (*rota/rotalaw09.group).step: bads 0, calls [23, 27, 25, 24]
abbrev o_rotalaw09_group_step_0 : List IOper := [⟨(some 11), .mv (.t 0), none⟩,
  ⟨(some 12), .nilck (.t 11), none⟩,
  ⟨(some 13), .fa 0 (.t 12), none⟩,
  ⟨(some 14), .fa 1 (.t 13), none⟩,
  ⟨(some 15), .ld none (.t 14), none⟩,
  ⟨(some 16), .mv (.t 0), none⟩,
  ⟨(some 17), .nilck (.t 16), none⟩,
  ⟨(some 18), .fa 13 (.t 17), none⟩,
  ⟨(some 19), .ld none (.t 18), none⟩,
  ⟨(some 20), .mv (.t 0), none⟩,
  ⟨(some 21), .nilck (.t 20), none⟩,
  ⟨(some 22), .fa 0 (.t 21), none⟩,
  ⟨(some 23), .fa 0 (.t 22), none⟩,
  ⟨(some 24), .ld none (.t 23), none⟩,
  ⟨(some 25), .bin .rem (.t 19) (.t 24), none⟩,
  ⟨(some 26), .iaS 1 (.t 15) (.t 25), none⟩,
  ⟨(some 27), .ld none (.t 26), none⟩,
  ⟨(some 4), .mv (.t 27), none⟩]
abbrev o_rotalaw09_group_step_1 : List IOper := [⟨(some 29), .mv (.t 0), none⟩,
  ⟨(some 30), .nilck (.t 29), none⟩,
  ⟨(some 31), .fa 12 (.t 30), none⟩,
  ⟨(some 32), .ld none (.t 31), none⟩,
  ⟨(some 33), .mv (.t 4), none⟩,
  ⟨(some 34), .iaS 1 (.t 32) (.t 33), none⟩,
  ⟨(some 35), .ld none (.t 34), none⟩,
  ⟨(some 36), .call (.k (.c (.fn fn_member_Member_Turn [] []))) [(.t 35)], none⟩,
  ⟨(some 28), .mv (.t 36), none⟩,
  ⟨(some 37), .ext (.t 28) 0, none⟩,
  ⟨(some 38), .ext (.t 28) 1, none⟩,
  ⟨(some 5), .new 69 (.agg [(.int .i64 0), (.int .u16 0)]), none⟩,
  ⟨none, .st 2 (.t 5) (.t 37), none⟩,
  ⟨(some 6), .mv (.t 38), none⟩]
abbrev o_rotalaw09_group_step_2 : List IOper := [⟨(some 40), .mv (.t 4), none⟩,
  ⟨(some 41), .ld (some 2) (.t 5), none⟩,
  ⟨(some 42), .build (List.replicate 2 (.int .i64 0) ++ [(.int .u16 0)] ++ List.replicate 64 (.int .u8 0)) [(0, 1, (.t 40)), (1, 2, (.t 41))], none⟩,
  ⟨(some 43), .call (.k (.c (.fn fn_frame_Encode [] []))) [(.t 42)], none⟩,
  ⟨(some 39), .mv (.t 43), none⟩,
  ⟨(some 44), .ext (.t 39) 0, none⟩,
  ⟨(some 45), .ext (.t 39) 1, none⟩,
  ⟨(some 7), .mv (.t 44), none⟩,
  ⟨(some 8), .mv (.t 45), none⟩]
abbrev o_rotalaw09_group_step_3 : List IOper := [⟨(some 46), .mv (.t 0), none⟩,
  ⟨(some 47), .mv (.t 0), none⟩,
  ⟨(some 48), .nilck (.t 47), none⟩,
  ⟨(some 49), .fa 14 (.t 48), none⟩,
  ⟨(some 50), .ld none (.t 49), none⟩,
  ⟨(some 51), .mv (.t 50), none⟩,
  ⟨(some 52), .mv (.t 8), some (51, true)⟩,
  ⟨(some 53), .bin .eql (.t 52) (.k (.c (.int .i64 0))), some (51, true)⟩,
  ⟨(some 54), .pick (.t 51) (.t 53) (.k (.c (.bool false))), none⟩,
  ⟨(some 55), .nilck (.t 46), none⟩,
  ⟨(some 56), .fa 14 (.t 55), none⟩,
  ⟨none, .st 1 (.t 56) (.t 54), none⟩]
abbrev o_rotalaw09_group_step_4 : List IOper := [⟨(some 9), .mv (.k (.c (.int .i64 0))), none⟩]
abbrev o_rotalaw09_group_step_5 : List IOper := [⟨(some 57), .mv (.t 9), none⟩,
  ⟨(some 58), .mv (.t 0), none⟩,
  ⟨(some 59), .nilck (.t 58), none⟩,
  ⟨(some 60), .fa 12 (.t 59), none⟩,
  ⟨(some 61), .ld none (.t 60), none⟩,
  ⟨(some 62), .len false (.t 61), none⟩,
  ⟨(some 63), .bin .lss (.t 57) (.t 62), none⟩]
abbrev o_rotalaw09_group_step_6 : List IOper := [⟨(some 66), .mv (.t 9), none⟩,
  ⟨(some 67), .mv (.t 4), none⟩,
  ⟨(some 68), .bin .neq (.t 66) (.t 67), none⟩]
abbrev o_rotalaw09_group_step_7 : List IOper := [⟨(some 69), .mv (.t 0), none⟩,
  ⟨(some 70), .nilck (.t 69), none⟩,
  ⟨(some 71), .fa 12 (.t 70), none⟩,
  ⟨(some 72), .ld none (.t 71), none⟩,
  ⟨(some 73), .mv (.t 9), none⟩,
  ⟨(some 74), .iaS 1 (.t 72) (.t 73), none⟩,
  ⟨(some 75), .ld none (.t 74), none⟩,
  ⟨(some 76), .mv (.t 7), none⟩,
  ⟨(some 77), .mv (.t 6), none⟩,
  ⟨(some 78), .un .not (.t 77), none⟩,
  ⟨(some 79), .mv (.t 78), none⟩,
  ⟨(some 80), .mv (.t 1), some (79, false)⟩,
  ⟨(some 81), .mv (.t 9), some (79, false)⟩,
  ⟨(some 82), .bin .shl (.k (.c (.int .u16 1))) (.t 81), some (79, false)⟩,
  ⟨(some 83), .bin .and (.t 80) (.t 82), some (79, false)⟩,
  ⟨(some 84), .bin .neq (.t 83) (.k (.c (.int .u16 0))), some (79, false)⟩,
  ⟨(some 85), .pick (.t 79) (.k (.c (.bool true))) (.t 84), none⟩,
  ⟨(some 86), .call (.k (.c (.fn fn_member_Member_Hear [] []))) [(.t 75), (.t 76), (.t 85)], none⟩]
abbrev o_rotalaw09_group_step_8 : List IOper := [⟨(some 64), .mv (.t 9), none⟩,
  ⟨(some 65), .bin .add (.t 64) (.k (.c (.int .i64 1))), none⟩,
  ⟨(some 9), .mv (.t 65), none⟩]
def b_rotalaw09_group_step_9 : IC := (.seq (.seq (.ops o_rotalaw09_group_step_5) (.cond (.t 63) .skip (.exit 0))) (.seq (.block 1 (.seq (.ops o_rotalaw09_group_step_6) (.cond (.t 68) (.ops o_rotalaw09_group_step_7) .skip))) (.ops o_rotalaw09_group_step_8)))
abbrev o_rotalaw09_group_step_10 : List IOper := [⟨(some 10), .mv (.k (.c (.int .i64 0))), none⟩]
abbrev o_rotalaw09_group_step_11 : List IOper := [⟨(some 87), .mv (.t 10), none⟩,
  ⟨(some 88), .mv (.t 0), none⟩,
  ⟨(some 89), .nilck (.t 88), none⟩,
  ⟨(some 90), .fa 12 (.t 89), none⟩,
  ⟨(some 91), .ld none (.t 90), none⟩,
  ⟨(some 92), .len false (.t 91), none⟩,
  ⟨(some 93), .bin .lss (.t 87) (.t 92), none⟩]
abbrev o_rotalaw09_group_step_12 : List IOper := [⟨(some 96), .mv (.t 0), none⟩,
  ⟨(some 97), .nilck (.t 96), none⟩,
  ⟨(some 98), .fa 12 (.t 97), none⟩,
  ⟨(some 99), .ld none (.t 98), none⟩,
  ⟨(some 100), .mv (.t 10), none⟩,
  ⟨(some 101), .iaS 1 (.t 99) (.t 100), none⟩,
  ⟨(some 102), .ld none (.t 101), none⟩,
  ⟨(some 103), .call (.k (.c (.fn fn_member_Member_Next [] []))) [(.t 102)], none⟩]
abbrev o_rotalaw09_group_step_13 : List IOper := [⟨(some 94), .mv (.t 10), none⟩,
  ⟨(some 95), .bin .add (.t 94) (.k (.c (.int .i64 1))), none⟩,
  ⟨(some 10), .mv (.t 95), none⟩]
def b_rotalaw09_group_step_14 : IC := (.seq (.seq (.ops o_rotalaw09_group_step_11) (.cond (.t 93) .skip (.exit 2))) (.seq (.block 3 (.ops o_rotalaw09_group_step_12)) (.ops o_rotalaw09_group_step_13)))
abbrev o_rotalaw09_group_step_15 : List IOper := [⟨(some 104), .mv (.t 0), none⟩,
  ⟨(some 105), .nilck (.t 104), none⟩,
  ⟨(some 106), .fa 13 (.t 105), none⟩,
  ⟨(some 107), .ld none (.t 106), none⟩,
  ⟨(some 108), .bin .add (.t 107) (.k (.c (.int .i64 1))), none⟩,
  ⟨(some 109), .nilck (.t 104), none⟩,
  ⟨(some 110), .fa 13 (.t 109), none⟩,
  ⟨none, .st 1 (.t 110) (.t 108), none⟩]
def c_rotalaw09_group_step : IC := (.seq (.ops o_rotalaw09_group_step_0) (.seq (.ops o_rotalaw09_group_step_1) (.seq (.ops o_rotalaw09_group_step_2) (.seq (.ops o_rotalaw09_group_step_3) (.seq (.seq (.ops o_rotalaw09_group_step_4) (.block 0 (.loop b_rotalaw09_group_step_9))) (.seq (.seq (.ops o_rotalaw09_group_step_10) (.block 2 (.loop b_rotalaw09_group_step_14))) (.ops o_rotalaw09_group_step_15)))))))
def i_rotalaw09_group_step : IFn := ⟨111, c_rotalaw09_group_step, []⟩

-- F 13 (*rota/rotalaw09.ghost).agrees: bads 0, calls [19, 19, 20, 10, 10]
abbrev o_rotalaw09_ghost_agrees_0 : List IOper := [⟨(some 4), .mv (.k (.c (.bool false))), none⟩]
abbrev o_rotalaw09_ghost_agrees_1 : List IOper := [⟨(some 5), .mv (.k (.c (.bool true))), none⟩]
abbrev o_rotalaw09_ghost_agrees_2 : List IOper := [⟨(some 6), .mv (.k (.c (.int .u16 0))), none⟩]
abbrev o_rotalaw09_ghost_agrees_3 : List IOper := [⟨(some 10), .mv (.t 1), none⟩,
  ⟨(some 11), .nilck (.t 10), none⟩,
  ⟨(some 12), .fa 13 (.t 11), none⟩,
  ⟨(some 13), .ld none (.t 12), none⟩,
  ⟨(some 14), .mv (.t 0), none⟩,
  ⟨(some 15), .nilck (.t 14), none⟩,
  ⟨(some 16), .fa 1 (.t 15), none⟩,
  ⟨(some 17), .ld none (.t 16), none⟩,
  ⟨(some 18), .mv (.t 1), none⟩,
  ⟨(some 19), .nilck (.t 18), none⟩,
  ⟨(some 20), .fa 0 (.t 19), none⟩,
  ⟨(some 21), .fa 0 (.t 20), none⟩,
  ⟨(some 22), .ld none (.t 21), none⟩,
  ⟨(some 23), .bin .mul (.k (.c (.int .i64 2))) (.t 22), none⟩,
  ⟨(some 24), .bin .add (.t 17) (.t 23), none⟩,
  ⟨(some 25), .bin .gtr (.t 13) (.t 24), none⟩,
  ⟨(some 7), .mv (.t 25), none⟩]
abbrev o_rotalaw09_ghost_agrees_4 : List IOper := [⟨(some 8), .mv (.k (.c (.int .i64 0))), none⟩]
abbrev o_rotalaw09_ghost_agrees_5 : List IOper := [⟨(some 26), .mv (.t 8), none⟩,
  ⟨(some 27), .mv (.t 1), none⟩,
  ⟨(some 28), .nilck (.t 27), none⟩,
  ⟨(some 29), .fa 12 (.t 28), none⟩,
  ⟨(some 30), .ld none (.t 29), none⟩,
  ⟨(some 31), .len false (.t 30), none⟩,
  ⟨(some 32), .bin .lss (.t 26) (.t 31), none⟩]
abbrev o_rotalaw09_ghost_agrees_6 : List IOper := [⟨(some 35), .mv (.t 1), none⟩,
  ⟨(some 36), .nilck (.t 35), none⟩,
  ⟨(some 37), .fa 12 (.t 36), none⟩,
  ⟨(some 38), .ld none (.t 37), none⟩,
  ⟨(some 39), .mv (.t 8), none⟩,
  ⟨(some 40), .iaS 1 (.t 38) (.t 39), none⟩,
  ⟨(some 41), .ld none (.t 40), none⟩,
  ⟨(some 9), .mv (.t 41), none⟩]
abbrev o_rotalaw09_ghost_agrees_7 : List IOper := [⟨(some 42), .mv (.t 0), none⟩,
  ⟨(some 43), .nilck (.t 42), none⟩,
  ⟨(some 44), .fa 0 (.t 43), none⟩,
  ⟨(some 45), .ld none (.t 44), none⟩,
  ⟨(some 46), .mv (.t 8), none⟩,
  ⟨(some 47), .bin .shl (.k (.c (.int .u16 1))) (.t 46), none⟩,
  ⟨(some 48), .bin .and (.t 45) (.t 47), none⟩,
  ⟨(some 49), .bin .eql (.t 48) (.k (.c (.int .u16 0))), none⟩]
abbrev o_rotalaw09_ghost_agrees_8 : List IOper := [⟨(some 50), .mv (.t 7), none⟩,
  ⟨(some 51), .mv (.t 50), none⟩,
  ⟨(some 52), .mv (.t 9), some (51, true)⟩,
  ⟨(some 53), .call (.k (.c (.fn fn_member_Member_State [] []))) [(.t 52)], some (51, true)⟩,
  ⟨(some 54), .bin .neq (.t 53) (.k (.c (.int .i64 3))), some (51, true)⟩,
  ⟨(some 55), .pick (.t 51) (.t 54) (.k (.c (.bool false))), none⟩]
abbrev o_rotalaw09_ghost_agrees_9 : List IOper := [⟨(some 4), .mv (.k (.c (.bool false))), none⟩]
abbrev o_rotalaw09_ghost_agrees_10 : List IOper := [⟨(some 56), .mv (.t 9), none⟩,
  ⟨(some 57), .call (.k (.c (.fn fn_member_Member_State [] []))) [(.t 56)], none⟩,
  ⟨(some 58), .bin .neq (.t 57) (.k (.c (.int .i64 2))), none⟩,
  ⟨(some 59), .mv (.t 58), none⟩,
  ⟨(some 62), .mv (.t 1), some (59, false)⟩,
  ⟨(some 63), .nilck (.t 62), some (59, false)⟩,
  ⟨(some 64), .fa 13 (.t 63), some (59, false)⟩,
  ⟨(some 65), .ld none (.t 64), some (59, false)⟩,
  ⟨(some 60), .mv (.t 9), some (59, false)⟩,
  ⟨(some 61), .call (.k (.c (.fn fn_member_Member_Slot [] []))) [(.t 60)], some (59, false)⟩,
  ⟨none, .same (some none) (.t 64) (.t 65), some (59, false)⟩,
  ⟨(some 66), .bin .neq (.t 61) (.t 65), some (59, false)⟩,
  ⟨(some 67), .pick (.t 59) (.k (.c (.bool true))) (.t 66), none⟩,
  ⟨(some 68), .mv (.t 67), none⟩,
  ⟨(some 69), .mv (.t 5), some (68, false)⟩,
  ⟨(some 70), .un .not (.t 69), some (68, false)⟩,
  ⟨(some 71), .mv (.t 70), some (68, false)⟩,
  ⟨(some 74), .mv (.t 6), some (71, true)⟩,
  ⟨(some 72), .mv (.t 9), some (71, true)⟩,
  ⟨(some 73), .call (.k (.c (.fn fn_member_Member_Vector [] []))) [(.t 72)], some (71, true)⟩,
  ⟨(some 75), .bin .neq (.t 73) (.t 74), some (71, true)⟩,
  ⟨(some 76), .pick (.t 71) (.t 75) (.k (.c (.bool false))), some (68, false)⟩,
  ⟨(some 77), .pick (.t 68) (.k (.c (.bool true))) (.t 76), none⟩]
abbrev o_rotalaw09_ghost_agrees_11 : List IOper := [⟨(some 4), .mv (.k (.c (.bool false))), none⟩]
abbrev o_rotalaw09_ghost_agrees_12 : List IOper := [⟨(some 5), .mv (.k (.c (.bool false))), none⟩]
abbrev o_rotalaw09_ghost_agrees_13 : List IOper := [⟨(some 78), .mv (.t 9), none⟩,
  ⟨(some 79), .call (.k (.c (.fn fn_member_Member_Vector [] []))) [(.t 78)], none⟩,
  ⟨(some 6), .mv (.t 79), none⟩]
abbrev o_rotalaw09_ghost_agrees_14 : List IOper := [⟨(some 33), .mv (.t 8), none⟩,
  ⟨(some 34), .bin .add (.t 33) (.k (.c (.int .i64 1))), none⟩,
  ⟨(some 8), .mv (.t 34), none⟩]
def b_rotalaw09_ghost_agrees_15 : IC := (.seq (.seq (.ops o_rotalaw09_ghost_agrees_5) (.cond (.t 32) .skip (.exit 0))) (.seq (.block 1 (.seq (.ops o_rotalaw09_ghost_agrees_6) (.seq (.seq (.ops o_rotalaw09_ghost_agrees_7) (.cond (.t 49) (.seq (.seq (.ops o_rotalaw09_ghost_agrees_8) (.cond (.t 55) (.seq (.ops o_rotalaw09_ghost_agrees_9) .ret) .skip)) (.exit 1)) .skip)) (.seq (.seq (.ops o_rotalaw09_ghost_agrees_10) (.cond (.t 77) (.seq (.ops o_rotalaw09_ghost_agrees_11) .ret) .skip)) (.seq (.ops o_rotalaw09_ghost_agrees_12) (.ops o_rotalaw09_ghost_agrees_13)))))) (.ops o_rotalaw09_ghost_agrees_14)))
abbrev o_rotalaw09_ghost_agrees_16 : List IOper := [⟨(some 80), .mv (.t 6), none⟩,
  ⟨(some 81), .mv (.t 0), none⟩,
  ⟨(some 82), .nilck (.t 81), none⟩,
  ⟨(some 83), .fa 0 (.t 82), none⟩,
  ⟨(some 84), .ld none (.t 83), none⟩,
  ⟨(some 85), .bin .and (.t 80) (.t 84), none⟩,
  ⟨(some 86), .mv (.t 0), none⟩,
  ⟨(some 87), .nilck (.t 86), none⟩,
  ⟨(some 88), .fa 0 (.t 87), none⟩,
  ⟨(some 89), .ld none (.t 88), none⟩,
  ⟨(some 90), .bin .eql (.t 85) (.t 89), none⟩,
  ⟨(some 91), .mv (.t 90), none⟩,
  ⟨(some 92), .mv (.t 6), some (91, true)⟩,
  ⟨(some 93), .mv (.t 0), some (91, true)⟩,
  ⟨(some 94), .nilck (.t 93), some (91, true)⟩,
  ⟨(some 95), .fa 0 (.t 94), some (91, true)⟩,
  ⟨(some 96), .ld none (.t 95), some (91, true)⟩,
  ⟨(some 97), .mv (.t 0), some (91, true)⟩,
  ⟨(some 98), .nilck (.t 97), some (91, true)⟩,
  ⟨(some 99), .fa 2 (.t 98), some (91, true)⟩,
  ⟨(some 100), .ld none (.t 99), some (91, true)⟩,
  ⟨(some 101), .bin .or (.t 96) (.t 100), some (91, true)⟩,
  ⟨(some 102), .bin .andNot (.t 92) (.t 101), some (91, true)⟩,
  ⟨(some 103), .bin .eql (.t 102) (.k (.c (.int .u16 0))), some (91, true)⟩,
  ⟨(some 104), .pick (.t 91) (.t 103) (.k (.c (.bool false))), none⟩,
  ⟨(some 105), .mv (.t 104), none⟩,
  ⟨(some 106), .mv (.t 7), some (105, true)⟩,
  ⟨(some 107), .un .not (.t 106), some (105, true)⟩,
  ⟨(some 108), .mv (.t 107), some (105, true)⟩,
  ⟨(some 109), .mv (.t 6), some (108, false)⟩,
  ⟨(some 110), .mv (.t 0), some (108, false)⟩,
  ⟨(some 111), .nilck (.t 110), some (108, false)⟩,
  ⟨(some 112), .fa 0 (.t 111), some (108, false)⟩,
  ⟨(some 113), .ld none (.t 112), some (108, false)⟩,
  ⟨(some 114), .bin .eql (.t 109) (.t 113), some (108, false)⟩,
  ⟨(some 115), .pick (.t 108) (.k (.c (.bool true))) (.t 114), some (105, true)⟩,
  ⟨(some 116), .pick (.t 105) (.t 115) (.k (.c (.bool false))), none⟩,
  ⟨(some 4), .mv (.t 116), none⟩]
def c_rotalaw09_ghost_agrees : IC := (.seq (.ops o_rotalaw09_ghost_agrees_0) (.seq (.ops o_rotalaw09_ghost_agrees_1) (.seq (.ops o_rotalaw09_ghost_agrees_2) (.seq (.ops o_rotalaw09_ghost_agrees_3) (.seq (.seq (.ops o_rotalaw09_ghost_agrees_4) (.block 0 (.loop b_rotalaw09_ghost_agrees_15))) (.seq (.ops o_rotalaw09_ghost_agrees_16) .ret))))))
def i_rotalaw09_ghost_agrees : IFn := ⟨117, c_rotalaw09_ghost_agrees, [(4, none)]⟩

-- F 14 rota/member.New: bads 0, calls [31]
abbrev o_member_New_0 : List IOper := [⟨(some 2), .box 28 (.t 0), none⟩,
  ⟨(some 4), .mv (.k (.c (.ptr none))), none⟩,
  ⟨(some 5), .mv (.k (.c (.int .i64 0))), none⟩]
abbrev o_member_New_1 : List IOper := [⟨(some 7), .ld (some 12) (.t 2), none⟩,
  ⟨(some 8), .call (.k (.c (.fn fn_config_Check [] []))) [(.t 7)], none⟩,
  ⟨(some 6), .mv (.t 8), none⟩]
abbrev o_member_New_2 : List IOper := [⟨(some 9), .mv (.t 6), none⟩,
  ⟨(some 10), .bin .neq (.t 9) (.k (.c (.int .i64 0))), none⟩]
abbrev o_member_New_3 : List IOper := [⟨(some 11), .mv (.t 6), none⟩,
  ⟨(some 4), .mv (.k (.c (.ptr none))), none⟩,
  ⟨(some 5), .mv (.t 11), none⟩]
abbrev o_member_New_4 : List IOper := [⟨(some 12), .mv (.t 1), none⟩,
  ⟨(some 13), .bin .lss (.t 12) (.k (.c (.int .i64 0))), none⟩,
  ⟨(some 14), .mv (.t 13), none⟩,
  ⟨(some 15), .mv (.t 1), some (14, false)⟩,
  ⟨(some 16), .fa 0 (.t 2), some (14, false)⟩,
  ⟨(some 17), .ld none (.t 16), some (14, false)⟩,
  ⟨(some 18), .bin .geq (.t 15) (.t 17), some (14, false)⟩,
  ⟨(some 19), .pick (.t 14) (.k (.c (.bool true))) (.t 18), none⟩]
abbrev o_member_New_5 : List IOper := [⟨(some 4), .mv (.k (.c (.ptr none))), none⟩,
  ⟨(some 5), .mv (.k (.c (.int .i64 2))), none⟩]
abbrev o_member_New_6 : List IOper := [⟨(some 20), .bsl 3 0 [] [], none⟩,
  ⟨(some 21), .fa 1 (.t 2), none⟩,
  ⟨(some 22), .ld none (.t 21), none⟩,
  ⟨(some 23), .app 3 1 8 (.t 20) (.t 22), none⟩,
  ⟨(some 24), .fa 1 (.t 2), none⟩,
  ⟨none, .st 1 (.t 24) (.t 23), none⟩]
abbrev o_member_New_7 : List IOper := [⟨(some 25), .fa 0 (.t 2), none⟩,
  ⟨(some 26), .ld none (.t 25), none⟩,
  ⟨(some 27), .fa 1 (.t 2), none⟩,
  ⟨(some 28), .ld none (.t 27), none⟩,
  ⟨(some 29), .fa 6 (.t 2), none⟩,
  ⟨(some 30), .ld none (.t 29), none⟩,
  ⟨(some 31), .build ([(.int .i64 0)] ++ [(.sl none 0 0 false)] ++ List.replicate 6 (.int .i64 0) ++ List.replicate 4 (.sl none 0 0 false)) [(0, 1, (.t 26)), (1, 1, (.t 28)), (6, 1, (.t 30))], none⟩,
  ⟨(some 32), .mv (.t 1), none⟩,
  ⟨(some 33), .build ([(.int .i64 0)] ++ [(.sl none 0 0 false)] ++ List.replicate 6 (.int .i64 0) ++ List.replicate 4 (.sl none 0 0 false) ++ List.replicate 3 (.int .i64 0) ++ [(.int .u16 0)] ++ List.replicate 4 (.int .i64 0)) [(0, 12, (.t 31)), (12, 1, (.t 32)), (14, 1, (.k (.c (.int .i64 (-1)))))], none⟩,
  ⟨(some 34), .box 82 (.t 33), none⟩,
  ⟨(some 4), .mv (.t 34), none⟩,
  ⟨(some 5), .mv (.k (.c (.int .i64 0))), none⟩]
def c_member_New : IC := (.seq (.ops o_member_New_0) (.seq (.seq (.ops o_member_New_1) (.seq (.ops o_member_New_2) (.cond (.t 10) (.seq (.ops o_member_New_3) .ret) .skip))) (.seq (.seq (.ops o_member_New_4) (.cond (.t 19) (.seq (.ops o_member_New_5) .ret) .skip)) (.seq (.ops o_member_New_6) (.seq (.ops o_member_New_7) .ret)))))
def i_member_New : IFn := ⟨35, c_member_New, [(4, none), (5, none)]⟩

-- F 15 rota/rotaref09.New: bads 0, calls [32]
abbrev o_rotaref09_New_0 : List IOper := [⟨(some 2), .box 28 (.t 0), none⟩,
  ⟨(some 4), .new 53 (.agg ([(.int .i64 0)] ++ [(.sl none 0 0 false)] ++ List.replicate 6 (.int .i64 0) ++ List.replicate 4 (.sl none 0 0 false) ++ List.replicate 3 (.int .i64 0) ++ [(.sl none 0 0 false)] ++ List.replicate 4 (.int .i64 0))), none⟩,
  ⟨(some 5), .mv (.k (.c (.int .i64 0))), none⟩]
abbrev o_rotaref09_New_1 : List IOper := [⟨(some 7), .ld (some 12) (.t 2), none⟩,
  ⟨(some 8), .call (.k (.c (.fn fn_rotaref02_Check [] []))) [(.t 7)], none⟩,
  ⟨(some 6), .mv (.t 8), none⟩]
abbrev o_rotaref09_New_2 : List IOper := [⟨(some 9), .mv (.t 6), none⟩,
  ⟨(some 10), .bin .neq (.t 9) (.k (.c (.int .i64 0))), none⟩]
abbrev o_rotaref09_New_3 : List IOper := [⟨(some 11), .build ([(.int .i64 0)] ++ [(.sl none 0 0 false)] ++ List.replicate 6 (.int .i64 0) ++ List.replicate 4 (.sl none 0 0 false) ++ List.replicate 3 (.int .i64 0) ++ [(.sl none 0 0 false)] ++ List.replicate 4 (.int .i64 0)) [], none⟩,
  ⟨(some 12), .mv (.t 6), none⟩,
  ⟨none, .st 20 (.t 4) (.t 11), none⟩,
  ⟨(some 5), .mv (.t 12), none⟩]
abbrev o_rotaref09_New_4 : List IOper := [⟨(some 13), .mv (.t 1), none⟩,
  ⟨(some 14), .bin .lss (.t 13) (.k (.c (.int .i64 0))), none⟩,
  ⟨(some 15), .mv (.t 14), none⟩,
  ⟨(some 16), .mv (.t 1), some (15, false)⟩,
  ⟨(some 17), .fa 0 (.t 2), some (15, false)⟩,
  ⟨(some 18), .ld none (.t 17), some (15, false)⟩,
  ⟨(some 19), .bin .geq (.t 16) (.t 18), some (15, false)⟩,
  ⟨(some 20), .pick (.t 15) (.k (.c (.bool true))) (.t 19), none⟩]
abbrev o_rotaref09_New_5 : List IOper := [⟨(some 21), .build ([(.int .i64 0)] ++ [(.sl none 0 0 false)] ++ List.replicate 6 (.int .i64 0) ++ List.replicate 4 (.sl none 0 0 false) ++ List.replicate 3 (.int .i64 0) ++ [(.sl none 0 0 false)] ++ List.replicate 4 (.int .i64 0)) [], none⟩,
  ⟨none, .st 20 (.t 4) (.t 21), none⟩,
  ⟨(some 5), .mv (.k (.c (.int .i64 2))), none⟩]
abbrev o_rotaref09_New_6 : List IOper := [⟨(some 22), .ld (some 12) (.t 2), none⟩,
  ⟨(some 23), .mv (.t 1), none⟩,
  ⟨(some 24), .fa 0 (.t 2), none⟩,
  ⟨(some 25), .ld none (.t 24), none⟩,
  ⟨(some 26), .mksl 4 1 1 [(.bool false)] (.t 25) (.t 25), none⟩,
  ⟨(some 27), .build ([(.int .i64 0)] ++ [(.sl none 0 0 false)] ++ List.replicate 6 (.int .i64 0) ++ List.replicate 4 (.sl none 0 0 false) ++ List.replicate 3 (.int .i64 0) ++ [(.sl none 0 0 false)] ++ List.replicate 4 (.int .i64 0)) [(0, 12, (.t 22)), (12, 1, (.t 23)), (14, 1, (.k (.c (.int .i64 (-1))))), (15, 1, (.t 26))], none⟩,
  ⟨none, .st 20 (.t 4) (.t 27), none⟩,
  ⟨(some 5), .mv (.k (.c (.int .i64 0))), none⟩]
def c_rotaref09_New : IC := (.seq (.ops o_rotaref09_New_0) (.seq (.ops o_rotaref09_New_1) (.seq (.seq (.ops o_rotaref09_New_2) (.cond (.t 10) (.seq (.ops o_rotaref09_New_3) .ret) .skip)) (.seq (.seq (.ops o_rotaref09_New_4) (.cond (.t 20) (.seq (.ops o_rotaref09_New_5) .ret) .skip)) (.seq (.ops o_rotaref09_New_6) .ret)))))
def i_rotaref09_New : IFn := ⟨28, c_rotaref09_New, [(4, (some (some 20))), (5, none)]⟩

-- F 16 rota/rotalaw09.step: bads 0, calls [18, 33, 22, 34, 23, 35, 25, 36, 24, 37]
abbrev o_rotalaw09_step_0 : List IOper := [⟨(some 5), .box 60 (.t 2), none⟩,
  ⟨(some 6), .mv (.k (.c (.bool false))), none⟩]
abbrev o_rotalaw09_step_1 : List IOper := [⟨(some 21), .fa 0 (.t 5), none⟩,
  ⟨(some 22), .ld none (.t 21), none⟩]
abbrev o_rotalaw09_step_2 : List IOper := [⟨(some 24), .bin .eql (.t 22) (.k (.c (.int .i64 0))), none⟩,
  ⟨(some 23), .mv (.t 24), none⟩]
abbrev o_rotalaw09_step_3 : List IOper := [⟨(some 25), .mv (.t 0), none⟩,
  ⟨(some 26), .call (.k (.c (.fn fn_member_Member_Start [] []))) [(.t 25)], none⟩,
  ⟨(some 7), .mv (.t 26), none⟩]
abbrev o_rotalaw09_step_4 : List IOper := [⟨(some 27), .mv (.t 1), none⟩,
  ⟨(some 28), .call (.k (.c (.fn fn_rotaref09_Member_Start [] []))) [(.t 27)], none⟩]
abbrev o_rotalaw09_step_5 : List IOper := [⟨(some 29), .mv (.t 7), none⟩,
  ⟨(some 30), .bin .eql (.t 29) (.k (.c (.int .i64 0))), none⟩,
  ⟨(some 6), .mv (.t 30), none⟩]
abbrev o_rotalaw09_step_6 : List IOper := [⟨(some 32), .bin .eql (.t 22) (.k (.c (.int .i64 1))), none⟩,
  ⟨(some 31), .mv (.t 32), none⟩]
abbrev o_rotalaw09_step_7 : List IOper := [⟨(some 33), .mv (.t 0), none⟩,
  ⟨(some 34), .fa 1 (.t 5), none⟩,
  ⟨(some 35), .ld none (.t 34), none⟩,
  ⟨(some 36), .call (.k (.c (.fn fn_member_Member_Join [] []))) [(.t 33), (.t 35)], none⟩,
  ⟨(some 8), .mv (.t 36), none⟩]
abbrev o_rotalaw09_step_8 : List IOper := [⟨(some 37), .mv (.t 1), none⟩,
  ⟨(some 38), .fa 1 (.t 5), none⟩,
  ⟨(some 39), .ld none (.t 38), none⟩,
  ⟨(some 40), .call (.k (.c (.fn fn_rotaref09_Member_Join [] []))) [(.t 37), (.t 39)], none⟩,
  ⟨(some 9), .mv (.t 40), none⟩]
abbrev o_rotalaw09_step_9 : List IOper := [⟨(some 41), .mv (.t 8), none⟩,
  ⟨(some 42), .mv (.t 9), none⟩,
  ⟨(some 43), .bin .eql (.t 41) (.t 42), none⟩,
  ⟨(some 6), .mv (.t 43), none⟩]
abbrev o_rotalaw09_step_10 : List IOper := [⟨(some 45), .bin .eql (.t 22) (.k (.c (.int .i64 2))), none⟩,
  ⟨(some 44), .mv (.t 45), none⟩]
abbrev o_rotalaw09_step_11 : List IOper := [⟨(some 47), .mv (.t 0), none⟩,
  ⟨(some 48), .call (.k (.c (.fn fn_member_Member_Turn [] []))) [(.t 47)], none⟩,
  ⟨(some 46), .mv (.t 48), none⟩,
  ⟨(some 49), .ext (.t 46) 0, none⟩,
  ⟨(some 50), .ext (.t 46) 1, none⟩,
  ⟨(some 10), .new 69 (.agg [(.int .i64 0), (.int .u16 0)]), none⟩,
  ⟨none, .st 2 (.t 10) (.t 49), none⟩,
  ⟨(some 11), .mv (.t 50), none⟩]
abbrev o_rotalaw09_step_12 : List IOper := [⟨(some 52), .mv (.t 1), none⟩,
  ⟨(some 53), .call (.k (.c (.fn fn_rotaref09_Member_Turn [] []))) [(.t 52)], none⟩,
  ⟨(some 51), .mv (.t 53), none⟩,
  ⟨(some 54), .ext (.t 51) 0, none⟩,
  ⟨(some 55), .ext (.t 51) 1, none⟩,
  ⟨(some 12), .new 69 (.agg [(.int .i64 0), (.int .u16 0)]), none⟩,
  ⟨none, .st 2 (.t 12) (.t 54), none⟩,
  ⟨(some 13), .mv (.t 55), none⟩]
abbrev o_rotalaw09_step_13 : List IOper := [⟨(some 56), .ld (some 2) (.t 10), none⟩,
  ⟨(some 57), .ld (some 2) (.t 12), none⟩,
  ⟨(some 58), .eqagg [.int, .int] false (.t 56) (.t 57), none⟩,
  ⟨(some 59), .mv (.t 58), none⟩,
  ⟨(some 60), .mv (.t 11), some (59, true)⟩,
  ⟨(some 61), .mv (.t 13), some (59, true)⟩,
  ⟨(some 62), .eq .bool false (.t 60) (.t 61), some (59, true)⟩,
  ⟨(some 63), .pick (.t 59) (.t 62) (.k (.c (.bool false))), none⟩,
  ⟨(some 6), .mv (.t 63), none⟩]
abbrev o_rotalaw09_step_14 : List IOper := [⟨(some 65), .bin .eql (.t 22) (.k (.c (.int .i64 3))), none⟩,
  ⟨(some 64), .mv (.t 65), none⟩]
abbrev o_rotalaw09_step_15 : List IOper := [⟨(some 66), .bin .eql (.t 22) (.k (.c (.int .i64 4))), none⟩,
  ⟨(some 64), .mv (.t 66), none⟩]
abbrev o_rotalaw09_step_16 : List IOper := [⟨(some 67), .bsl 5 0 [] [], none⟩,
  ⟨(some 68), .fa 2 (.t 5), none⟩,
  ⟨(some 69), .ld none (.t 68), none⟩,
  ⟨(some 70), .app 5 1 1 (.t 67) (.t 69), none⟩,
  ⟨(some 14), .mv (.t 70), none⟩]
abbrev o_rotalaw09_step_17 : List IOper := [⟨(some 72), .mv (.t 0), none⟩,
  ⟨(some 73), .mv (.t 14), none⟩,
  ⟨(some 74), .fa 0 (.t 5), none⟩,
  ⟨(some 75), .ld none (.t 74), none⟩,
  ⟨(some 76), .bin .eql (.t 75) (.k (.c (.int .i64 4))), none⟩,
  ⟨(some 77), .call (.k (.c (.fn fn_member_Member_Hear [] []))) [(.t 72), (.t 73), (.t 76)], none⟩,
  ⟨(some 71), .mv (.t 77), none⟩,
  ⟨(some 78), .ext (.t 71) 0, none⟩,
  ⟨(some 79), .ext (.t 71) 1, none⟩,
  ⟨(some 15), .new 74 (.agg (List.replicate 2 (.int .i64 0) ++ [(.int .u16 0)] ++ List.replicate 64 (.int .u8 0))), none⟩,
  ⟨none, .st 67 (.t 15) (.t 78), none⟩,
  ⟨(some 16), .mv (.t 79), none⟩]
abbrev o_rotalaw09_step_18 : List IOper := [⟨(some 81), .mv (.t 1), none⟩,
  ⟨(some 82), .fa 2 (.t 5), none⟩,
  ⟨(some 83), .ld none (.t 82), none⟩,
  ⟨(some 84), .fa 0 (.t 5), none⟩,
  ⟨(some 85), .ld none (.t 84), none⟩,
  ⟨(some 86), .bin .eql (.t 85) (.k (.c (.int .i64 4))), none⟩,
  ⟨(some 87), .call (.k (.c (.fn fn_rotaref09_Member_Hear [] []))) [(.t 81), (.t 83), (.t 86)], none⟩,
  ⟨(some 80), .mv (.t 87), none⟩,
  ⟨(some 88), .ext (.t 80) 0, none⟩,
  ⟨(some 89), .ext (.t 80) 1, none⟩,
  ⟨(some 17), .new 74 (.agg (List.replicate 2 (.int .i64 0) ++ [(.int .u16 0)] ++ List.replicate 64 (.int .u8 0))), none⟩,
  ⟨none, .st 67 (.t 17) (.t 88), none⟩,
  ⟨(some 18), .mv (.t 89), none⟩]
abbrev o_rotalaw09_step_19 : List IOper := [⟨(some 19), .mv (.k (.c (.int .i64 0))), none⟩]
abbrev o_rotalaw09_step_20 : List IOper := [⟨(some 90), .mv (.t 19), none⟩,
  ⟨(some 91), .mv (.t 14), none⟩,
  ⟨(some 92), .len false (.t 91), none⟩,
  ⟨(some 93), .bin .lss (.t 90) (.t 92), none⟩]
abbrev o_rotalaw09_step_21 : List IOper := [⟨(some 96), .mv (.t 14), none⟩,
  ⟨(some 97), .mv (.t 19), none⟩,
  ⟨(some 98), .iaS 1 (.t 96) (.t 97), none⟩,
  ⟨(some 99), .ld none (.t 98), none⟩,
  ⟨(some 100), .fa 2 (.t 5), none⟩,
  ⟨(some 101), .ld none (.t 100), none⟩,
  ⟨(some 102), .mv (.t 19), none⟩,
  ⟨(some 103), .iaS 1 (.t 101) (.t 102), none⟩,
  ⟨(some 104), .ld none (.t 103), none⟩,
  ⟨(some 105), .bin .neq (.t 99) (.t 104), none⟩]
abbrev o_rotalaw09_step_22 : List IOper := [⟨(some 6), .mv (.k (.c (.bool false))), none⟩]
abbrev o_rotalaw09_step_23 : List IOper := [⟨(some 94), .mv (.t 19), none⟩,
  ⟨(some 95), .bin .add (.t 94) (.k (.c (.int .i64 1))), none⟩,
  ⟨(some 19), .mv (.t 95), none⟩]
def b_rotalaw09_step_24 : IC := (.seq (.seq (.ops o_rotalaw09_step_20) (.cond (.t 93) .skip (.exit 1))) (.seq (.block 2 (.seq (.ops o_rotalaw09_step_21) (.cond (.t 105) (.seq (.ops o_rotalaw09_step_22) .ret) .skip))) (.ops o_rotalaw09_step_23)))
abbrev o_rotalaw09_step_25 : List IOper := [⟨(some 106), .ld (some 67) (.t 15), none⟩,
  ⟨(some 107), .ld (some 67) (.t 17), none⟩,
  ⟨(some 108), .eqagg [.int, .int, .int, .int, .int, .int, .int, .int, .int, .int, .int, .int, .int, .int, .int, .int, .int, .int, .int, .int, .int, .int, .int, .int, .int, .int, .int, .int, .int, .int, .int, .int, .int, .int, .int, .int, .int, .int, .int, .int, .int, .int, .int, .int, .int, .int, .int, .int, .int, .int, .int, .int, .int, .int, .int, .int, .int, .int, .int, .int, .int, .int, .int, .int, .int, .int, .int] false (.t 106) (.t 107), none⟩,
  ⟨(some 109), .mv (.t 108), none⟩,
  ⟨(some 110), .mv (.t 16), some (109, true)⟩,
  ⟨(some 111), .mv (.t 18), some (109, true)⟩,
  ⟨(some 112), .eq .bool false (.t 110) (.t 111), some (109, true)⟩,
  ⟨(some 113), .pick (.t 109) (.t 112) (.k (.c (.bool false))), none⟩,
  ⟨(some 6), .mv (.t 113), none⟩]
abbrev o_rotalaw09_step_26 : List IOper := [⟨(some 115), .bin .eql (.t 22) (.k (.c (.int .i64 5))), none⟩,
  ⟨(some 114), .mv (.t 115), none⟩]
abbrev o_rotalaw09_step_27 : List IOper := [⟨(some 116), .mv (.t 0), none⟩,
  ⟨(some 117), .call (.k (.c (.fn fn_member_Member_Next [] []))) [(.t 116)], none⟩,
  ⟨(some 20), .mv (.t 117), none⟩]
abbrev o_rotalaw09_step_28 : List IOper := [⟨(some 118), .mv (.t 1), none⟩,
  ⟨(some 119), .call (.k (.c (.fn fn_rotaref09_Member_Next [] []))) [(.t 118)], none⟩]
abbrev o_rotalaw09_step_29 : List IOper := [⟨(some 120), .mv (.t 20), none⟩,
  ⟨(some 121), .bin .eql (.t 120) (.k (.c (.int .i64 0))), none⟩,
  ⟨(some 6), .mv (.t 121), none⟩]
abbrev o_rotalaw09_step_30 : List IOper := [⟨(some 6), .mv (.k (.c (.bool true))), none⟩]
def c_rotalaw09_step : IC := (.seq (.ops o_rotalaw09_step_0) (.seq (.seq (.ops o_rotalaw09_step_1) (.block 0 (.seq (.ops o_rotalaw09_step_2) (.cond (.t 23) (.seq (.ops o_rotalaw09_step_3) (.seq (.ops o_rotalaw09_step_4) (.seq (.ops o_rotalaw09_step_5) .ret))) (.seq (.ops o_rotalaw09_step_6) (.cond (.t 31) (.seq (.ops o_rotalaw09_step_7) (.seq (.ops o_rotalaw09_step_8) (.seq (.ops o_rotalaw09_step_9) .ret))) (.seq (.ops o_rotalaw09_step_10) (.cond (.t 44) (.seq (.ops o_rotalaw09_step_11) (.seq (.ops o_rotalaw09_step_12) (.seq (.ops o_rotalaw09_step_13) .ret))) (.seq (.seq (.ops o_rotalaw09_step_14) (.cond (.t 64) .skip (.ops o_rotalaw09_step_15))) (.cond (.t 64) (.seq (.ops o_rotalaw09_step_16) (.seq (.ops o_rotalaw09_step_17) (.seq (.ops o_rotalaw09_step_18) (.seq (.seq (.ops o_rotalaw09_step_19) (.block 1 (.loop b_rotalaw09_step_24))) (.seq (.ops o_rotalaw09_step_25) .ret))))) (.seq (.ops o_rotalaw09_step_26) (.cond (.t 114) (.seq (.ops o_rotalaw09_step_27) (.seq (.ops o_rotalaw09_step_28) (.seq (.ops o_rotalaw09_step_29) .ret))) .skip)))))))))))) (.seq (.ops o_rotalaw09_step_30) .ret)))
def i_rotalaw09_step : IFn := ⟨122, c_rotalaw09_step, [(6, none)]⟩

-- F 17 rota/rotalaw09.same: bads 0, calls [28, 26, 19, 10, 38, 20]
abbrev o_rotalaw09_same_0 : List IOper := [⟨(some 4), .mv (.k (.c (.bool false))), none⟩]
abbrev o_rotalaw09_same_1 : List IOper := [⟨(some 10), .mv (.t 0), none⟩,
  ⟨(some 11), .call (.k (.c (.fn fn_member_Member_Counts [] []))) [(.t 10)], none⟩,
  ⟨(some 9), .mv (.t 11), none⟩,
  ⟨(some 12), .ext (.t 9) 0, none⟩,
  ⟨(some 13), .ext (.t 9) 1, none⟩,
  ⟨(some 5), .mv (.t 12), none⟩,
  ⟨(some 6), .mv (.t 13), none⟩]
abbrev o_rotalaw09_same_2 : List IOper := [⟨(some 15), .mv (.t 0), none⟩,
  ⟨(some 16), .call (.k (.c (.fn fn_member_Member_Calm [] []))) [(.t 15)], none⟩,
  ⟨(some 14), .mv (.t 16), none⟩,
  ⟨(some 17), .ext (.t 14) 0, none⟩,
  ⟨(some 18), .ext (.t 14) 1, none⟩,
  ⟨(some 7), .mv (.t 17), none⟩,
  ⟨(some 8), .mv (.t 18), none⟩]
abbrev o_rotalaw09_same_3 : List IOper := [⟨(some 21), .mv (.t 1), none⟩,
  ⟨(some 22), .nilck (.t 21), none⟩,
  ⟨(some 23), .fa 13 (.t 22), none⟩,
  ⟨(some 24), .ld none (.t 23), none⟩,
  ⟨(some 19), .mv (.t 0), none⟩,
  ⟨(some 20), .call (.k (.c (.fn fn_member_Member_State [] []))) [(.t 19)], none⟩,
  ⟨none, .same (some none) (.t 23) (.t 24), none⟩,
  ⟨(some 25), .bin .eql (.t 20) (.t 24), none⟩,
  ⟨(some 26), .mv (.t 25), none⟩,
  ⟨(some 29), .mv (.t 1), some (26, true)⟩,
  ⟨(some 27), .mv (.t 0), some (26, true)⟩,
  ⟨(some 28), .call (.k (.c (.fn fn_member_Member_Vector [] []))) [(.t 27)], some (26, true)⟩,
  ⟨(some 30), .call (.k (.c (.fn fn_rotaref09_Member_Vector [] []))) [(.t 29)], some (26, true)⟩,
  ⟨(some 31), .bin .eql (.t 28) (.t 30), some (26, true)⟩,
  ⟨(some 32), .pick (.t 26) (.t 31) (.k (.c (.bool false))), none⟩,
  ⟨(some 33), .mv (.t 32), none⟩,
  ⟨(some 36), .mv (.t 1), some (33, true)⟩,
  ⟨(some 37), .nilck (.t 36), some (33, true)⟩,
  ⟨(some 38), .fa 14 (.t 37), some (33, true)⟩,
  ⟨(some 39), .ld none (.t 38), some (33, true)⟩,
  ⟨(some 34), .mv (.t 0), some (33, true)⟩,
  ⟨(some 35), .call (.k (.c (.fn fn_member_Member_Slot [] []))) [(.t 34)], some (33, true)⟩,
  ⟨none, .same (some none) (.t 38) (.t 39), some (33, true)⟩,
  ⟨(some 40), .bin .eql (.t 35) (.t 39), some (33, true)⟩,
  ⟨(some 41), .pick (.t 33) (.t 40) (.k (.c (.bool false))), none⟩,
  ⟨(some 42), .mv (.t 41), none⟩,
  ⟨(some 44), .mv (.t 1), some (42, true)⟩,
  ⟨(some 45), .nilck (.t 44), some (42, true)⟩,
  ⟨(some 46), .fa 16 (.t 45), some (42, true)⟩,
  ⟨(some 47), .ld none (.t 46), some (42, true)⟩,
  ⟨(some 43), .mv (.t 5), some (42, true)⟩,
  ⟨(some 48), .bin .eql (.t 43) (.t 47), some (42, true)⟩,
  ⟨(some 49), .pick (.t 42) (.t 48) (.k (.c (.bool false))), none⟩,
  ⟨(some 50), .mv (.t 49), none⟩,
  ⟨(some 52), .mv (.t 1), some (50, true)⟩,
  ⟨(some 53), .nilck (.t 52), some (50, true)⟩,
  ⟨(some 54), .fa 17 (.t 53), some (50, true)⟩,
  ⟨(some 55), .ld none (.t 54), some (50, true)⟩,
  ⟨(some 51), .mv (.t 6), some (50, true)⟩,
  ⟨(some 56), .bin .eql (.t 51) (.t 55), some (50, true)⟩,
  ⟨(some 57), .pick (.t 50) (.t 56) (.k (.c (.bool false))), none⟩,
  ⟨(some 58), .mv (.t 57), none⟩,
  ⟨(some 60), .mv (.t 1), some (58, true)⟩,
  ⟨(some 61), .nilck (.t 60), some (58, true)⟩,
  ⟨(some 62), .fa 18 (.t 61), some (58, true)⟩,
  ⟨(some 63), .ld none (.t 62), some (58, true)⟩,
  ⟨(some 59), .mv (.t 7), some (58, true)⟩,
  ⟨(some 64), .bin .eql (.t 59) (.t 63), some (58, true)⟩,
  ⟨(some 65), .pick (.t 58) (.t 64) (.k (.c (.bool false))), none⟩,
  ⟨(some 66), .mv (.t 65), none⟩,
  ⟨(some 68), .mv (.t 1), some (66, true)⟩,
  ⟨(some 69), .nilck (.t 68), some (66, true)⟩,
  ⟨(some 70), .fa 19 (.t 69), some (66, true)⟩,
  ⟨(some 71), .ld none (.t 70), some (66, true)⟩,
  ⟨(some 67), .mv (.t 8), some (66, true)⟩,
  ⟨(some 72), .bin .eql (.t 67) (.t 71), some (66, true)⟩,
  ⟨(some 73), .pick (.t 66) (.t 72) (.k (.c (.bool false))), none⟩,
  ⟨(some 4), .mv (.t 73), none⟩]
def c_rotalaw09_same : IC := (.seq (.ops o_rotalaw09_same_0) (.seq (.ops o_rotalaw09_same_1) (.seq (.ops o_rotalaw09_same_2) (.seq (.ops o_rotalaw09_same_3) .ret))))
def i_rotalaw09_same : IFn := ⟨74, c_rotalaw09_same, [(4, none)]⟩

-- F 18 (*rota/member.Member).Start: bads 0, calls [29, 39]
abbrev o_member_Member_Start_0 : List IOper := [⟨(some 2), .mv (.k (.c (.int .i64 0))), none⟩]
abbrev o_member_Member_Start_1 : List IOper := [⟨(some 3), .mv (.t 0), none⟩,
  ⟨(some 4), .call (.k (.c (.fn fn_member_Member_none [] []))) [(.t 3)], none⟩]
abbrev o_member_Member_Start_2 : List IOper := [⟨(some 2), .mv (.k (.c (.int .i64 1))), none⟩]
abbrev o_member_Member_Start_3 : List IOper := [⟨(some 5), .mv (.t 0), none⟩,
  ⟨(some 6), .call (.k (.c (.fn fn_member_Member_stop [] []))) [(.t 5)], none⟩]
abbrev o_member_Member_Start_4 : List IOper := [⟨(some 7), .mv (.t 0), none⟩,
  ⟨(some 8), .mv (.t 0), none⟩,
  ⟨(some 9), .mv (.t 0), none⟩,
  ⟨(some 10), .nilck (.t 7), none⟩,
  ⟨(some 11), .fa 13 (.t 10), none⟩,
  ⟨none, .st 1 (.t 11) (.k (.c (.int .i64 1))), none⟩,
  ⟨(some 12), .nilck (.t 8), none⟩,
  ⟨(some 13), .fa 16 (.t 12), none⟩,
  ⟨none, .st 1 (.t 13) (.k (.c (.int .i64 0))), none⟩,
  ⟨(some 14), .nilck (.t 9), none⟩,
  ⟨(some 15), .fa 17 (.t 14), none⟩,
  ⟨none, .st 1 (.t 15) (.k (.c (.int .i64 0))), none⟩]
abbrev o_member_Member_Start_5 : List IOper := [⟨(some 2), .mv (.k (.c (.int .i64 0))), none⟩]
def c_member_Member_Start : IC := (.seq (.ops o_member_Member_Start_0) (.seq (.seq (.ops o_member_Member_Start_1) (.cond (.t 4) (.seq (.ops o_member_Member_Start_2) .ret) .skip)) (.seq (.ops o_member_Member_Start_3) (.seq (.ops o_member_Member_Start_4) (.seq (.ops o_member_Member_Start_5) .ret)))))
def i_member_Member_Start : IFn := ⟨16, c_member_Member_Start, [(2, none)]⟩

-- F 19 (*rota/member.Member).State: bads 0, calls [29]
abbrev o_member_Member_State_0 : List IOper := [⟨(some 2), .mv (.k (.c (.int .i64 0))), none⟩]
abbrev o_member_Member_State_1 : List IOper := [⟨(some 3), .mv (.t 0), none⟩,
  ⟨(some 4), .call (.k (.c (.fn fn_member_Member_none [] []))) [(.t 3)], none⟩]
abbrev o_member_Member_State_2 : List IOper := [⟨(some 2), .mv (.k (.c (.int .i64 0))), none⟩]
abbrev o_member_Member_State_3 : List IOper := [⟨(some 5), .mv (.t 0), none⟩,
  ⟨(some 6), .nilck (.t 5), none⟩,
  ⟨(some 7), .fa 13 (.t 6), none⟩,
  ⟨(some 8), .ld none (.t 7), none⟩,
  ⟨(some 2), .mv (.t 8), none⟩]
def c_member_Member_State : IC := (.seq (.ops o_member_Member_State_0) (.seq (.seq (.ops o_member_Member_State_1) (.cond (.t 4) (.seq (.ops o_member_Member_State_2) .ret) .skip)) (.seq (.ops o_member_Member_State_3) .ret)))
def i_member_Member_State : IFn := ⟨9, c_member_Member_State, [(2, none)]⟩

-- F 20 (*rota/member.Member).Slot: bads 0, calls [29]
abbrev o_member_Member_Slot_0 : List IOper := [⟨(some 2), .mv (.k (.c (.int .i64 0))), none⟩]
abbrev o_member_Member_Slot_1 : List IOper := [⟨(some 3), .mv (.t 0), none⟩,
  ⟨(some 4), .call (.k (.c (.fn fn_member_Member_none [] []))) [(.t 3)], none⟩]
abbrev o_member_Member_Slot_2 : List IOper := [⟨(some 2), .mv (.k (.c (.int .i64 (-1)))), none⟩]
abbrev o_member_Member_Slot_3 : List IOper := [⟨(some 5), .mv (.t 0), none⟩,
  ⟨(some 6), .nilck (.t 5), none⟩,
  ⟨(some 7), .fa 14 (.t 6), none⟩,
  ⟨(some 8), .ld none (.t 7), none⟩,
  ⟨(some 2), .mv (.t 8), none⟩]
def c_member_Member_Slot : IC := (.seq (.ops o_member_Member_Slot_0) (.seq (.seq (.ops o_member_Member_Slot_1) (.cond (.t 4) (.seq (.ops o_member_Member_Slot_2) .ret) .skip)) (.seq (.ops o_member_Member_Slot_3) .ret)))
def i_member_Member_Slot : IFn := ⟨9, c_member_Member_Slot, [(2, none)]⟩

-- F 21 rota/rotalaw07.Four: bads 0, calls []
abbrev o_rotalaw07_Four_0 : List IOper := [⟨(some 0), .new 28 (.agg ([(.int .i64 0)] ++ [(.sl none 0 0 false)] ++ List.replicate 6 (.int .i64 0) ++ List.replicate 4 (.sl none 0 0 false))), none⟩]
abbrev o_rotalaw07_Four_1 : List IOper := [⟨(some 2), .bsl 3 4 (List.replicate 4 (.int .i64 0)) [(0, 1, (.k (.c (.int .i64 (-1))))), (1, 1, (.k (.c (.int .i64 (-1))))), (2, 1, (.k (.c (.int .i64 (-1))))), (3, 1, (.k (.c (.int .i64 (-1)))))], none⟩,
  ⟨(some 1), .mv (.t 2), none⟩]
abbrev o_rotalaw07_Four_2 : List IOper := [⟨(some 3), .bsl 3 4 (List.replicate 4 (.int .i64 0)) [(0, 1, (.k (.c (.int .i64 0)))), (1, 1, (.k (.c (.int .i64 1)))), (2, 1, (.k (.c (.int .i64 2)))), (3, 1, (.k (.c (.int .i64 3))))], none⟩,
  ⟨(some 4), .mv (.t 1), none⟩,
  ⟨(some 5), .mv (.t 1), none⟩,
  ⟨(some 6), .mv (.t 1), none⟩,
  ⟨(some 7), .mv (.t 1), none⟩,
  ⟨(some 8), .bsl 22 4 (List.replicate 4 (.sl none 0 0 false)) [(0, 1, (.t 4)), (1, 1, (.t 5)), (2, 1, (.t 6)), (3, 1, (.t 7))], none⟩,
  ⟨(some 9), .build ([(.int .i64 0)] ++ [(.sl none 0 0 false)] ++ List.replicate 6 (.int .i64 0) ++ List.replicate 4 (.sl none 0 0 false)) [(0, 1, (.k (.c (.int .i64 4)))), (1, 1, (.t 3)), (2, 1, (.k (.c (.int .i64 1)))), (3, 1, (.k (.c (.int .i64 1)))), (4, 1, (.k (.c (.int .i64 20)))), (5, 1, (.k (.c (.int .i64 20)))), (6, 1, (.k (.c (.int .i64 1)))), (7, 1, (.k (.c (.int .i64 4)))), (9, 1, (.t 8))], none⟩,
  ⟨none, .st 12 (.t 0) (.t 9), none⟩]
def c_rotalaw07_Four : IC := (.seq (.ops o_rotalaw07_Four_0) (.seq (.ops o_rotalaw07_Four_1) (.seq (.ops o_rotalaw07_Four_2) .ret)))
def i_rotalaw07_Four : IFn := ⟨10, c_rotalaw07_Four, [(0, (some (some 12)))]⟩

-- F 22 (*rota/member.Member).Join: bads 0, calls [29, 39, 40, 41]
abbrev o_member_Member_Join_0 : List IOper := [⟨(some 4), .mv (.k (.c (.int .i64 0))), none⟩]
abbrev o_member_Member_Join_1 : List IOper := [⟨(some 6), .mv (.t 0), none⟩,
  ⟨(some 7), .call (.k (.c (.fn fn_member_Member_none [] []))) [(.t 6)], none⟩,
  ⟨(some 5), .mv (.t 7), none⟩]
abbrev o_member_Member_Join_2 : List IOper := [⟨(some 4), .mv (.k (.c (.int .i64 1))), none⟩]
abbrev o_member_Member_Join_3 : List IOper := [⟨(some 9), .mv (.t 1), none⟩,
  ⟨(some 10), .bin .lss (.t 9) (.k (.c (.int .i64 0))), none⟩,
  ⟨(some 11), .mv (.t 10), none⟩,
  ⟨(some 12), .mv (.t 1), some (11, false)⟩,
  ⟨(some 13), .bin .gtr (.t 12) (.k (.c (.int .i64 2147483647))), some (11, false)⟩,
  ⟨(some 14), .pick (.t 11) (.k (.c (.bool true))) (.t 13), none⟩,
  ⟨(some 8), .mv (.t 14), none⟩]
abbrev o_member_Member_Join_4 : List IOper := [⟨(some 4), .mv (.k (.c (.int .i64 2))), none⟩]
abbrev o_member_Member_Join_5 : List IOper := [⟨(some 15), .mv (.t 0), none⟩,
  ⟨(some 16), .call (.k (.c (.fn fn_member_Member_stop [] []))) [(.t 15)], none⟩]
abbrev o_member_Member_Join_6 : List IOper := [⟨(some 17), .mv (.t 0), none⟩,
  ⟨(some 18), .mv (.t 0), none⟩,
  ⟨(some 19), .mv (.t 1), none⟩,
  ⟨(some 20), .mv (.t 0), none⟩,
  ⟨(some 21), .call (.k (.c (.fn fn_member_Member_all [] []))) [(.t 20)], none⟩,
  ⟨(some 22), .nilck (.t 17), none⟩,
  ⟨(some 23), .fa 14 (.t 22), none⟩,
  ⟨none, .st 1 (.t 23) (.t 19), none⟩,
  ⟨(some 24), .nilck (.t 18), none⟩,
  ⟨(some 25), .fa 15 (.t 24), none⟩,
  ⟨none, .st 1 (.t 25) (.t 21), none⟩]
abbrev o_member_Member_Join_7 : List IOper := [⟨(some 26), .mv (.t 0), none⟩,
  ⟨(some 27), .call (.k (.c (.fn fn_member_Member_anew [] []))) [(.t 26)], none⟩]
abbrev o_member_Member_Join_8 : List IOper := [⟨(some 28), .mv (.t 0), none⟩,
  ⟨(some 29), .mv (.t 0), none⟩,
  ⟨(some 30), .nilck (.t 29), none⟩,
  ⟨(some 31), .fa 0 (.t 30), none⟩,
  ⟨(some 32), .fa 0 (.t 31), none⟩,
  ⟨(some 33), .ld none (.t 32), none⟩,
  ⟨(some 34), .nilck (.t 28), none⟩,
  ⟨(some 35), .fa 16 (.t 34), none⟩,
  ⟨none, .st 1 (.t 35) (.t 33), none⟩]
abbrev o_member_Member_Join_9 : List IOper := [⟨(some 4), .mv (.k (.c (.int .i64 0))), none⟩]
def c_member_Member_Join : IC := (.seq (.ops o_member_Member_Join_0) (.seq (.block 0 (.seq (.ops o_member_Member_Join_1) (.cond (.t 5) (.seq (.ops o_member_Member_Join_2) .ret) (.seq (.ops o_member_Member_Join_3) (.cond (.t 8) (.seq (.ops o_member_Member_Join_4) .ret) .skip))))) (.seq (.ops o_member_Member_Join_5) (.seq (.ops o_member_Member_Join_6) (.seq (.ops o_member_Member_Join_7) (.seq (.ops o_member_Member_Join_8) (.seq (.ops o_member_Member_Join_9) .ret)))))))
def i_member_Member_Join : IFn := ⟨36, c_member_Member_Join, [(4, none)]⟩

-- F 23 (*rota/member.Member).Turn: bads 0, calls [29, 42, 43]
abbrev o_member_Member_Turn_0 : List IOper := [⟨(some 2), .new 69 (.agg [(.int .i64 0), (.int .u16 0)]), none⟩,
  ⟨(some 3), .mv (.k (.c (.bool false))), none⟩]
abbrev o_member_Member_Turn_1 : List IOper := [⟨(some 5), .mv (.t 0), none⟩,
  ⟨(some 6), .call (.k (.c (.fn fn_member_Member_none [] []))) [(.t 5)], none⟩]
abbrev o_member_Member_Turn_2 : List IOper := [⟨(some 7), .build [(.int .i64 0), (.int .u16 0)] [], none⟩,
  ⟨none, .st 2 (.t 2) (.t 7), none⟩,
  ⟨(some 3), .mv (.k (.c (.bool false))), none⟩]
abbrev o_member_Member_Turn_3 : List IOper := [⟨(some 8), .mkmap none, none⟩,
  ⟨none, .ins .int (.t 8) (.k (.c (.int .i64 2))) (.k (.c (.fn fn_member_Member_turnActive [] []))), none⟩,
  ⟨none, .ins .int (.t 8) (.k (.c (.int .i64 1))) (.k (.c (.fn fn_member_Member_turnListen [] []))), none⟩,
  ⟨(some 9), .mv (.t 8), none⟩,
  ⟨(some 10), .mv (.t 0), none⟩,
  ⟨(some 11), .nilck (.t 10), none⟩,
  ⟨(some 12), .fa 13 (.t 11), none⟩,
  ⟨(some 13), .ld none (.t 12), none⟩,
  ⟨(some 14), .look .int (.c .nilFn) false (.t 9) (.t 13), none⟩,
  ⟨(some 4), .mv (.t 14), none⟩]
abbrev o_member_Member_Turn_4 : List IOper := [⟨(some 15), .mv (.t 4), none⟩,
  ⟨(some 16), .eq .fn false (.t 15) (.k (.c .nilFn)), none⟩,
  ⟨(some 17), .mv (.t 16), none⟩,
  ⟨(some 18), .mv (.t 4), some (17, false)⟩,
  ⟨(some 19), .mv (.t 0), some (17, false)⟩,
  ⟨(some 20), .call (.t 18) [(.t 19)], some (17, false)⟩,
  ⟨(some 21), .un .not (.t 20), some (17, false)⟩,
  ⟨(some 22), .pick (.t 17) (.k (.c (.bool true))) (.t 21), none⟩]
abbrev o_member_Member_Turn_5 : List IOper := [⟨(some 23), .build [(.int .i64 0), (.int .u16 0)] [], none⟩,
  ⟨none, .st 2 (.t 2) (.t 23), none⟩,
  ⟨(some 3), .mv (.k (.c (.bool false))), none⟩]
abbrev o_member_Member_Turn_6 : List IOper := [⟨(some 24), .mv (.t 0), none⟩,
  ⟨(some 25), .nilck (.t 24), none⟩,
  ⟨(some 26), .fa 14 (.t 25), none⟩,
  ⟨(some 27), .ld none (.t 26), none⟩,
  ⟨(some 28), .mv (.t 0), none⟩,
  ⟨(some 29), .nilck (.t 28), none⟩,
  ⟨(some 30), .fa 15 (.t 29), none⟩,
  ⟨(some 31), .ld none (.t 30), none⟩,
  ⟨(some 32), .build [(.int .i64 0), (.int .u16 0)] [(0, 1, (.t 27)), (1, 1, (.t 31))], none⟩,
  ⟨none, .st 2 (.t 2) (.t 32), none⟩,
  ⟨(some 3), .mv (.k (.c (.bool true))), none⟩]
def c_member_Member_Turn : IC := (.seq (.ops o_member_Member_Turn_0) (.seq (.seq (.ops o_member_Member_Turn_1) (.cond (.t 6) (.seq (.ops o_member_Member_Turn_2) .ret) .skip)) (.seq (.ops o_member_Member_Turn_3) (.seq (.seq (.ops o_member_Member_Turn_4) (.cond (.t 22) (.seq (.ops o_member_Member_Turn_5) .ret) .skip)) (.seq (.ops o_member_Member_Turn_6) .ret)))))
def i_member_Member_Turn : IFn := ⟨33, c_member_Member_Turn, [(2, (some (some 2))), (3, none)]⟩

-- F 24 (*rota/member.Member).Next: bads 0, calls [29, 44]
abbrev o_member_Member_Next_0 : List IOper := [⟨(some 2), .mv (.k (.c (.int .i64 0))), none⟩]
abbrev o_member_Member_Next_1 : List IOper := [⟨(some 4), .mv (.t 0), none⟩,
  ⟨(some 5), .call (.k (.c (.fn fn_member_Member_none [] []))) [(.t 4)], none⟩,
  ⟨(some 3), .mv (.t 5), none⟩]
abbrev o_member_Member_Next_2 : List IOper := [⟨(some 2), .mv (.k (.c (.int .i64 1))), none⟩]
abbrev o_member_Member_Next_3 : List IOper := [⟨(some 7), .mv (.t 0), none⟩,
  ⟨(some 8), .nilck (.t 7), none⟩,
  ⟨(some 9), .fa 14 (.t 8), none⟩,
  ⟨(some 10), .ld none (.t 9), none⟩,
  ⟨(some 11), .bin .eql (.t 10) (.k (.c (.int .i64 2147483647))), none⟩,
  ⟨(some 6), .mv (.t 11), none⟩]
abbrev o_member_Member_Next_4 : List IOper := [⟨(some 12), .mv (.t 0), none⟩,
  ⟨(some 13), .call (.k (.c (.fn fn_member_Member_astray [] []))) [(.t 12)], none⟩]
abbrev o_member_Member_Next_5 : List IOper := [⟨(some 15), .mv (.t 0), none⟩,
  ⟨(some 16), .nilck (.t 15), none⟩,
  ⟨(some 17), .fa 14 (.t 16), none⟩,
  ⟨(some 18), .ld none (.t 17), none⟩,
  ⟨(some 19), .bin .geq (.t 18) (.k (.c (.int .i64 0))), none⟩,
  ⟨(some 14), .mv (.t 19), none⟩]
abbrev o_member_Member_Next_6 : List IOper := [⟨(some 20), .mv (.t 0), none⟩,
  ⟨(some 21), .nilck (.t 20), none⟩,
  ⟨(some 22), .fa 14 (.t 21), none⟩,
  ⟨(some 23), .ld none (.t 22), none⟩,
  ⟨(some 24), .bin .add (.t 23) (.k (.c (.int .i64 1))), none⟩,
  ⟨(some 25), .nilck (.t 20), none⟩,
  ⟨(some 26), .fa 14 (.t 25), none⟩,
  ⟨none, .st 1 (.t 26) (.t 24), none⟩]
abbrev o_member_Member_Next_7 : List IOper := [⟨(some 2), .mv (.k (.c (.int .i64 0))), none⟩]
def c_member_Member_Next : IC := (.seq (.ops o_member_Member_Next_0) (.seq (.block 0 (.seq (.ops o_member_Member_Next_1) (.cond (.t 3) (.seq (.ops o_member_Member_Next_2) .ret) (.seq (.ops o_member_Member_Next_3) (.cond (.t 6) (.ops o_member_Member_Next_4) (.seq (.ops o_member_Member_Next_5) (.cond (.t 14) (.ops o_member_Member_Next_6) .skip))))))) (.seq (.ops o_member_Member_Next_7) .ret)))
def i_member_Member_Next : IFn := ⟨27, c_member_Member_Next, [(2, none)]⟩

-- F 25 (*rota/member.Member).Hear: bads 0, calls [29, 45, 46, 44, 46, 47, 39]
abbrev o_member_Member_Hear_0 : List IOper := [⟨(some 6), .new 74 (.agg (List.replicate 2 (.int .i64 0) ++ [(.int .u16 0)] ++ List.replicate 64 (.int .u8 0))), none⟩,
  ⟨(some 7), .mv (.k (.c (.bool false))), none⟩]
abbrev o_member_Member_Hear_1 : List IOper := [⟨(some 15), .mv (.t 0), none⟩,
  ⟨(some 16), .call (.k (.c (.fn fn_member_Member_none [] []))) [(.t 15)], none⟩,
  ⟨(some 17), .mv (.t 16), none⟩,
  ⟨(some 18), .mv (.t 0), some (17, false)⟩,
  ⟨(some 19), .nilck (.t 18), some (17, false)⟩,
  ⟨(some 20), .fa 13 (.t 19), some (17, false)⟩,
  ⟨(some 21), .ld none (.t 20), some (17, false)⟩,
  ⟨(some 22), .bin .eql (.t 21) (.k (.c (.int .i64 0))), some (17, false)⟩,
  ⟨(some 23), .pick (.t 17) (.k (.c (.bool true))) (.t 22), none⟩,
  ⟨(some 24), .mv (.t 23), none⟩,
  ⟨(some 25), .mv (.t 0), some (24, false)⟩,
  ⟨(some 26), .nilck (.t 25), some (24, false)⟩,
  ⟨(some 27), .fa 13 (.t 26), some (24, false)⟩,
  ⟨(some 28), .ld none (.t 27), some (24, false)⟩,
  ⟨(some 29), .bin .eql (.t 28) (.k (.c (.int .i64 3))), some (24, false)⟩,
  ⟨(some 30), .pick (.t 24) (.k (.c (.bool true))) (.t 29), none⟩,
  ⟨(some 14), .mv (.t 30), none⟩]
abbrev o_member_Member_Hear_2 : List IOper := [⟨(some 31), .build (List.replicate 2 (.int .i64 0) ++ [(.int .u16 0)] ++ List.replicate 64 (.int .u8 0)) [], none⟩,
  ⟨none, .st 67 (.t 6) (.t 31), none⟩,
  ⟨(some 7), .mv (.k (.c (.bool false))), none⟩]
abbrev o_member_Member_Hear_3 : List IOper := [⟨(some 33), .mv (.t 0), none⟩,
  ⟨(some 34), .nilck (.t 33), none⟩,
  ⟨(some 35), .fa 14 (.t 34), none⟩,
  ⟨(some 36), .ld none (.t 35), none⟩,
  ⟨(some 37), .bin .lss (.t 36) (.k (.c (.int .i64 0))), none⟩,
  ⟨(some 32), .mv (.t 37), none⟩]
abbrev o_member_Member_Hear_4 : List IOper := [⟨(some 38), .mv (.t 0), none⟩,
  ⟨(some 39), .mv (.t 1), none⟩,
  ⟨(some 40), .mv (.t 2), none⟩,
  ⟨(some 41), .call (.k (.c (.fn fn_member_Member_find [] []))) [(.t 38), (.t 39), (.t 40)], none⟩,
  ⟨(some 42), .ext (.t 41) 0, none⟩,
  ⟨(some 43), .ext (.t 41) 1, none⟩,
  ⟨none, .st 67 (.t 6) (.t 42), none⟩,
  ⟨(some 7), .mv (.t 43), none⟩]
abbrev o_member_Member_Hear_5 : List IOper := [⟨(some 51), .mv (.t 0), none⟩,
  ⟨(some 52), .nilck (.t 51), none⟩,
  ⟨(some 53), .fa 12 (.t 52), none⟩,
  ⟨(some 54), .ld none (.t 53), none⟩,
  ⟨(some 46), .mv (.t 0), none⟩,
  ⟨(some 47), .nilck (.t 46), none⟩,
  ⟨(some 48), .fa 14 (.t 47), none⟩,
  ⟨(some 49), .ld none (.t 48), none⟩,
  ⟨(some 45), .mv (.t 0), none⟩,
  ⟨(some 50), .call (.k (.c (.fn fn_member_Member_turn [] []))) [(.t 45), (.t 49)], none⟩,
  ⟨none, .same (some none) (.t 53) (.t 54), none⟩,
  ⟨(some 55), .bin .eql (.t 50) (.t 54), none⟩,
  ⟨(some 44), .mv (.t 55), none⟩]
abbrev o_member_Member_Hear_6 : List IOper := [⟨(some 56), .mv (.t 0), none⟩,
  ⟨(some 57), .call (.k (.c (.fn fn_member_Member_astray [] []))) [(.t 56)], none⟩]
abbrev o_member_Member_Hear_7 : List IOper := [⟨(some 58), .build (List.replicate 2 (.int .i64 0) ++ [(.int .u16 0)] ++ List.replicate 64 (.int .u8 0)) [], none⟩,
  ⟨none, .st 67 (.t 6) (.t 58), none⟩,
  ⟨(some 7), .mv (.k (.c (.bool false))), none⟩]
abbrev o_member_Member_Hear_8 : List IOper := [⟨(some 59), .mv (.t 0), none⟩,
  ⟨(some 60), .mv (.t 0), none⟩,
  ⟨(some 61), .nilck (.t 60), none⟩,
  ⟨(some 62), .fa 14 (.t 61), none⟩,
  ⟨(some 63), .ld none (.t 62), none⟩,
  ⟨(some 64), .call (.k (.c (.fn fn_member_Member_turn [] []))) [(.t 59), (.t 63)], none⟩,
  ⟨(some 8), .mv (.t 64), none⟩]
abbrev o_member_Member_Hear_9 : List IOper := [⟨(some 65), .mv (.t 8), none⟩,
  ⟨(some 66), .bin .shl (.k (.c (.int .u16 1))) (.t 65), none⟩,
  ⟨(some 9), .mv (.t 66), none⟩]
abbrev o_member_Member_Hear_10 : List IOper := [⟨(some 68), .mv (.t 0), none⟩,
  ⟨(some 69), .mv (.t 1), none⟩,
  ⟨(some 70), .mv (.t 8), none⟩,
  ⟨(some 71), .mv (.t 2), none⟩,
  ⟨(some 72), .call (.k (.c (.fn fn_member_Member_judge [] []))) [(.t 68), (.t 69), (.t 70), (.t 71)], none⟩,
  ⟨(some 67), .mv (.t 72), none⟩,
  ⟨(some 73), .ext (.t 67) 0, none⟩,
  ⟨(some 74), .ext (.t 67) 1, none⟩,
  ⟨(some 10), .new 74 (.agg (List.replicate 2 (.int .i64 0) ++ [(.int .u16 0)] ++ List.replicate 64 (.int .u8 0))), none⟩,
  ⟨none, .st 67 (.t 10) (.t 73), none⟩,
  ⟨(some 11), .mv (.t 74), none⟩]
abbrev o_member_Member_Hear_11 : List IOper := [⟨(some 75), .mv (.t 0), none⟩,
  ⟨(some 76), .nilck (.t 75), none⟩,
  ⟨(some 77), .fa 13 (.t 76), none⟩,
  ⟨(some 78), .ld none (.t 77), none⟩,
  ⟨(some 79), .bin .eql (.t 78) (.k (.c (.int .i64 2))), none⟩,
  ⟨(some 12), .mv (.t 79), none⟩]
abbrev o_member_Member_Hear_12 : List IOper := [⟨(some 80), .mv (.t 0), none⟩,
  ⟨(some 81), .nilck (.t 80), none⟩,
  ⟨(some 82), .fa 15 (.t 81), none⟩,
  ⟨(some 83), .ld none (.t 82), none⟩,
  ⟨(some 84), .mv (.t 9), none⟩,
  ⟨(some 85), .bin .and (.t 83) (.t 84), none⟩,
  ⟨(some 86), .bin .neq (.t 85) (.k (.c (.int .u16 0))), none⟩,
  ⟨(some 13), .mv (.t 86), none⟩]
abbrev o_member_Member_Hear_13 : List IOper := [⟨(some 95), .mv (.t 11), none⟩,
  ⟨(some 96), .bin .eql (.t 95) (.k (.c (.int .i64 0))), none⟩,
  ⟨(some 94), .mv (.t 96), none⟩]
abbrev o_member_Member_Hear_14 : List IOper := [⟨(some 97), .mv (.t 0), none⟩,
  ⟨(some 98), .nilck (.t 97), none⟩,
  ⟨(some 99), .fa 15 (.t 98), none⟩,
  ⟨(some 100), .ld none (.t 99), none⟩,
  ⟨(some 101), .mv (.t 9), none⟩,
  ⟨(some 102), .bin .or (.t 100) (.t 101), none⟩,
  ⟨(some 103), .nilck (.t 97), none⟩,
  ⟨(some 104), .fa 15 (.t 103), none⟩,
  ⟨none, .st 1 (.t 104) (.t 102), none⟩]
abbrev o_member_Member_Hear_15 : List IOper := [⟨(some 105), .mv (.t 12), none⟩]
abbrev o_member_Member_Hear_16 : List IOper := [⟨(some 106), .mv (.t 0), none⟩,
  ⟨(some 107), .nilck (.t 106), none⟩,
  ⟨(some 108), .fa 16 (.t 107), none⟩,
  ⟨(some 109), .ld none (.t 108), none⟩,
  ⟨(some 110), .bin .add (.t 109) (.k (.c (.int .i64 1))), none⟩,
  ⟨(some 111), .nilck (.t 106), none⟩,
  ⟨(some 112), .fa 16 (.t 111), none⟩,
  ⟨none, .st 1 (.t 112) (.t 110), none⟩]
abbrev o_member_Member_Hear_17 : List IOper := [⟨(some 113), .mv (.t 0), none⟩,
  ⟨(some 114), .nilck (.t 113), none⟩,
  ⟨(some 115), .fa 18 (.t 114), none⟩,
  ⟨(some 116), .ld none (.t 115), none⟩,
  ⟨(some 117), .bin .add (.t 116) (.k (.c (.int .i64 1))), none⟩,
  ⟨(some 118), .nilck (.t 113), none⟩,
  ⟨(some 119), .fa 18 (.t 118), none⟩,
  ⟨none, .st 1 (.t 119) (.t 117), none⟩]
abbrev o_member_Member_Hear_18 : List IOper := [⟨(some 120), .ld (some 67) (.t 10), none⟩,
  ⟨none, .st 67 (.t 6) (.t 120), none⟩,
  ⟨(some 7), .mv (.k (.c (.bool true))), none⟩]
abbrev o_member_Member_Hear_19 : List IOper := [⟨(some 122), .mv (.t 12), none⟩,
  ⟨(some 121), .mv (.t 122), none⟩]
abbrev o_member_Member_Hear_20 : List IOper := [⟨(some 123), .mv (.t 11), none⟩,
  ⟨(some 124), .bin .eql (.t 123) (.k (.c (.int .i64 1))), none⟩,
  ⟨(some 125), .mv (.t 124), none⟩,
  ⟨(some 126), .mv (.t 13), some (125, false)⟩,
  ⟨(some 127), .pick (.t 125) (.k (.c (.bool true))) (.t 126), none⟩]
abbrev o_member_Member_Hear_21 : List IOper := [⟨(some 128), .mv (.t 0), none⟩,
  ⟨(some 129), .nilck (.t 128), none⟩,
  ⟨(some 130), .fa 17 (.t 129), none⟩,
  ⟨(some 131), .ld none (.t 130), none⟩,
  ⟨(some 132), .bin .add (.t 131) (.k (.c (.int .i64 1))), none⟩,
  ⟨(some 133), .nilck (.t 128), none⟩,
  ⟨(some 134), .fa 17 (.t 133), none⟩,
  ⟨none, .st 1 (.t 134) (.t 132), none⟩]
abbrev o_member_Member_Hear_22 : List IOper := [⟨(some 135), .mv (.t 0), none⟩,
  ⟨(some 136), .nilck (.t 135), none⟩,
  ⟨(some 137), .fa 15 (.t 136), none⟩,
  ⟨(some 138), .ld none (.t 137), none⟩,
  ⟨(some 139), .mv (.t 9), none⟩,
  ⟨(some 140), .bin .andNot (.t 138) (.t 139), none⟩,
  ⟨(some 141), .nilck (.t 135), none⟩,
  ⟨(some 142), .fa 15 (.t 141), none⟩,
  ⟨none, .st 1 (.t 142) (.t 140), none⟩]
abbrev o_member_Member_Hear_23 : List IOper := [⟨(some 144), .mv (.t 11), none⟩,
  ⟨(some 145), .bin .eql (.t 144) (.k (.c (.int .i64 1))), none⟩,
  ⟨(some 143), .mv (.t 145), none⟩]
abbrev o_member_Member_Hear_24 : List IOper := [⟨(some 146), .mv (.t 0), none⟩,
  ⟨(some 147), .call (.k (.c (.fn fn_member_Member_stop [] []))) [(.t 146)], none⟩]
abbrev o_member_Member_Hear_25 : List IOper := [⟨(some 149), .mv (.t 13), none⟩,
  ⟨(some 148), .mv (.t 149), none⟩]
abbrev o_member_Member_Hear_26 : List IOper := [⟨(some 150), .mv (.t 0), none⟩,
  ⟨(some 151), .nilck (.t 150), none⟩,
  ⟨(some 152), .fa 15 (.t 151), none⟩,
  ⟨(some 153), .ld none (.t 152), none⟩,
  ⟨(some 154), .mv (.t 9), none⟩,
  ⟨(some 155), .bin .andNot (.t 153) (.t 154), none⟩,
  ⟨(some 156), .nilck (.t 150), none⟩,
  ⟨(some 157), .fa 15 (.t 156), none⟩,
  ⟨none, .st 1 (.t 157) (.t 155), none⟩]
abbrev o_member_Member_Hear_27 : List IOper := [⟨(some 158), .mv (.t 0), none⟩,
  ⟨(some 159), .nilck (.t 158), none⟩,
  ⟨(some 160), .fa 18 (.t 159), none⟩,
  ⟨none, .st 1 (.t 160) (.k (.c (.int .i64 0))), none⟩]
abbrev o_member_Member_Hear_28 : List IOper := [⟨(some 87), .mv (.t 0), none⟩,
  ⟨(some 88), .nilck (.t 87), none⟩,
  ⟨(some 89), .fa 18 (.t 88), none⟩,
  ⟨(some 90), .ld none (.t 89), none⟩,
  ⟨(some 91), .bin .add (.t 90) (.k (.c (.int .i64 1))), none⟩,
  ⟨(some 92), .nilck (.t 87), none⟩,
  ⟨(some 93), .fa 18 (.t 92), none⟩,
  ⟨none, .st 1 (.t 93) (.t 91), none⟩]
abbrev o_member_Member_Hear_29 : List IOper := [⟨(some 161), .build (List.replicate 2 (.int .i64 0) ++ [(.int .u16 0)] ++ List.replicate 64 (.int .u8 0)) [], none⟩,
  ⟨none, .st 67 (.t 6) (.t 161), none⟩,
  ⟨(some 7), .mv (.k (.c (.bool false))), none⟩]
def c_member_Member_Hear : IC := (.seq (.ops o_member_Member_Hear_0) (.seq (.block 0 (.seq (.ops o_member_Member_Hear_1) (.cond (.t 14) (.seq (.ops o_member_Member_Hear_2) .ret) (.seq (.ops o_member_Member_Hear_3) (.cond (.t 32) (.seq (.ops o_member_Member_Hear_4) .ret) (.seq (.ops o_member_Member_Hear_5) (.cond (.t 44) (.seq (.ops o_member_Member_Hear_6) (.seq (.ops o_member_Member_Hear_7) .ret)) .skip))))))) (.seq (.ops o_member_Member_Hear_8) (.seq (.ops o_member_Member_Hear_9) (.seq (.ops o_member_Member_Hear_10) (.seq (.ops o_member_Member_Hear_11) (.seq (.ops o_member_Member_Hear_12) (.seq (.block 1 (.seq (.ops o_member_Member_Hear_13) (.cond (.t 94) (.seq (.ops o_member_Member_Hear_14) (.seq (.seq (.ops o_member_Member_Hear_15) (.cond (.t 105) (.ops o_member_Member_Hear_16) (.ops o_member_Member_Hear_17))) (.seq (.ops o_member_Member_Hear_18) .ret))) (.seq (.ops o_member_Member_Hear_19) (.cond (.t 121) (.seq (.seq (.ops o_member_Member_Hear_20) (.cond (.t 127) (.ops o_member_Member_Hear_21) .skip)) (.ops o_member_Member_Hear_22)) (.seq (.ops o_member_Member_Hear_23) (.cond (.t 143) (.ops o_member_Member_Hear_24) (.seq (.ops o_member_Member_Hear_25) (.cond (.t 148) (.seq (.ops o_member_Member_Hear_26) (.ops o_member_Member_Hear_27)) (.ops o_member_Member_Hear_28)))))))))) (.seq (.ops o_member_Member_Hear_29) .ret)))))))))
def i_member_Member_Hear : IFn := ⟨162, c_member_Member_Hear, [(6, (some (some 67))), (7, none)]⟩

-- F 26 (*rota/member.Member).Calm: bads 0, calls [29]
abbrev o_member_Member_Calm_0 : List IOper := [⟨(some 2), .mv (.k (.c (.int .i64 0))), none⟩,
  ⟨(some 3), .mv (.k (.c (.int .i64 0))), none⟩]
abbrev o_member_Member_Calm_1 : List IOper := [⟨(some 4), .mv (.t 0), none⟩,
  ⟨(some 5), .call (.k (.c (.fn fn_member_Member_none [] []))) [(.t 4)], none⟩]
abbrev o_member_Member_Calm_2 : List IOper := [⟨(some 2), .mv (.k (.c (.int .i64 0))), none⟩,
  ⟨(some 3), .mv (.k (.c (.int .i64 0))), none⟩]
abbrev o_member_Member_Calm_3 : List IOper := [⟨(some 6), .mv (.t 0), none⟩,
  ⟨(some 7), .nilck (.t 6), none⟩,
  ⟨(some 8), .fa 18 (.t 7), none⟩,
  ⟨(some 9), .ld none (.t 8), none⟩,
  ⟨(some 10), .mv (.t 0), none⟩,
  ⟨(some 11), .nilck (.t 10), none⟩,
  ⟨(some 12), .fa 19 (.t 11), none⟩,
  ⟨(some 13), .ld none (.t 12), none⟩,
  ⟨(some 2), .mv (.t 9), none⟩,
  ⟨(some 3), .mv (.t 13), none⟩]
def c_member_Member_Calm : IC := (.seq (.ops o_member_Member_Calm_0) (.seq (.seq (.ops o_member_Member_Calm_1) (.cond (.t 5) (.seq (.ops o_member_Member_Calm_2) .ret) .skip)) (.seq (.ops o_member_Member_Calm_3) .ret)))
def i_member_Member_Calm : IFn := ⟨14, c_member_Member_Calm, [(2, none), (3, none)]⟩

-- F 27 rota/frame.Encode: bads 0, calls [48, 49]
abbrev o_frame_Encode_0 : List IOper := [⟨(some 1), .box 74 (.t 0), none⟩,
  ⟨(some 2), .mv (.k (.c (.sl none 0 0 false))), none⟩,
  ⟨(some 3), .mv (.k (.c (.int .i64 0))), none⟩]
abbrev o_frame_Encode_1 : List IOper := [⟨(some 6), .fa 0 (.t 1), none⟩,
  ⟨(some 7), .ld none (.t 6), none⟩,
  ⟨(some 8), .bin .lss (.t 7) (.k (.c (.int .i64 0))), none⟩,
  ⟨(some 9), .mv (.t 8), none⟩,
  ⟨(some 10), .fa 0 (.t 1), some (9, false)⟩,
  ⟨(some 11), .ld none (.t 10), some (9, false)⟩,
  ⟨(some 12), .bin .geq (.t 11) (.k (.c (.int .i64 16))), some (9, false)⟩,
  ⟨(some 13), .pick (.t 9) (.k (.c (.bool true))) (.t 12), none⟩,
  ⟨(some 14), .mv (.t 13), none⟩,
  ⟨(some 15), .fa 1 (.t 1), some (14, false)⟩,
  ⟨(some 16), .fa 0 (.t 15), some (14, false)⟩,
  ⟨(some 17), .ld none (.t 16), some (14, false)⟩,
  ⟨(some 18), .bin .lss (.t 17) (.k (.c (.int .i64 0))), some (14, false)⟩,
  ⟨(some 19), .pick (.t 14) (.k (.c (.bool true))) (.t 18), none⟩,
  ⟨(some 20), .mv (.t 19), none⟩,
  ⟨(some 21), .fa 1 (.t 1), some (20, false)⟩,
  ⟨(some 22), .fa 0 (.t 21), some (20, false)⟩,
  ⟨(some 23), .ld none (.t 22), some (20, false)⟩,
  ⟨(some 24), .bin .gtr (.t 23) (.k (.c (.int .i64 2147483647))), some (20, false)⟩,
  ⟨(some 25), .pick (.t 20) (.k (.c (.bool true))) (.t 24), none⟩]
abbrev o_frame_Encode_2 : List IOper := [⟨(some 2), .mv (.k (.c (.sl none 0 0 false))), none⟩,
  ⟨(some 3), .mv (.k (.c (.int .i64 2))), none⟩]
abbrev o_frame_Encode_3 : List IOper := [⟨(some 34), .fa 3 (.t 1), none⟩,
  ⟨(some 35), .slA 64 1 (.t 34) none none none, none⟩,
  ⟨(some 29), .fa 0 (.t 1), none⟩,
  ⟨(some 30), .ld none (.t 29), none⟩,
  ⟨(some 31), .cv .u8 (.t 30), none⟩,
  ⟨(some 26), .fa 1 (.t 1), none⟩,
  ⟨(some 27), .ld (some 2) (.t 26), none⟩,
  ⟨(some 28), .call (.k (.c (.fn fn_frame_state [] []))) [(.t 27)], none⟩,
  ⟨none, .same (some none) (.t 29) (.t 30), none⟩,
  ⟨(some 32), .bsl 5 1 [(.int .u8 0)] [(0, 1, (.t 31))], none⟩,
  ⟨(some 33), .app 5 1 1 (.t 28) (.t 32), none⟩,
  ⟨(some 36), .app 5 1 1 (.t 33) (.t 35), none⟩,
  ⟨(some 4), .mv (.t 36), none⟩]
abbrev o_frame_Encode_4 : List IOper := [⟨(some 37), .mv (.t 4), none⟩,
  ⟨(some 38), .call (.k (.c (.fn fn_sum_Sum [] []))) [(.t 37)], none⟩,
  ⟨(some 5), .mv (.t 38), none⟩]
abbrev o_frame_Encode_5 : List IOper := [⟨(some 39), .mv (.t 4), none⟩,
  ⟨(some 40), .mv (.t 5), none⟩,
  ⟨(some 41), .cv .u8 (.t 40), none⟩,
  ⟨(some 42), .mv (.t 5), none⟩,
  ⟨(some 43), .bin .shr (.t 42) (.k (.c (.int .u64 8))), none⟩,
  ⟨(some 44), .cv .u8 (.t 43), none⟩,
  ⟨(some 45), .mv (.t 5), none⟩,
  ⟨(some 46), .bin .shr (.t 45) (.k (.c (.int .u64 16))), none⟩,
  ⟨(some 47), .cv .u8 (.t 46), none⟩,
  ⟨(some 48), .mv (.t 5), none⟩,
  ⟨(some 49), .bin .shr (.t 48) (.k (.c (.int .u64 24))), none⟩,
  ⟨(some 50), .cv .u8 (.t 49), none⟩,
  ⟨(some 51), .bsl 5 4 (List.replicate 4 (.int .u8 0)) [(0, 1, (.t 41)), (1, 1, (.t 44)), (2, 1, (.t 47)), (3, 1, (.t 50))], none⟩,
  ⟨(some 52), .app 5 1 1 (.t 39) (.t 51), none⟩,
  ⟨(some 2), .mv (.t 52), none⟩,
  ⟨(some 3), .mv (.k (.c (.int .i64 0))), none⟩]
def c_frame_Encode : IC := (.seq (.ops o_frame_Encode_0) (.seq (.seq (.ops o_frame_Encode_1) (.cond (.t 25) (.seq (.ops o_frame_Encode_2) .ret) .skip)) (.seq (.ops o_frame_Encode_3) (.seq (.ops o_frame_Encode_4) (.seq (.ops o_frame_Encode_5) .ret)))))
def i_frame_Encode : IFn := ⟨53, c_frame_Encode, [(2, none), (3, none)]⟩

-- F 28 (*rota/member.Member).Counts: bads 0, calls [29]
abbrev o_member_Member_Counts_0 : List IOper := [⟨(some 2), .mv (.k (.c (.int .i64 0))), none⟩,
  ⟨(some 3), .mv (.k (.c (.int .i64 0))), none⟩]
abbrev o_member_Member_Counts_1 : List IOper := [⟨(some 4), .mv (.t 0), none⟩,
  ⟨(some 5), .call (.k (.c (.fn fn_member_Member_none [] []))) [(.t 4)], none⟩]
abbrev o_member_Member_Counts_2 : List IOper := [⟨(some 2), .mv (.k (.c (.int .i64 0))), none⟩,
  ⟨(some 3), .mv (.k (.c (.int .i64 0))), none⟩]
abbrev o_member_Member_Counts_3 : List IOper := [⟨(some 6), .mv (.t 0), none⟩,
  ⟨(some 7), .nilck (.t 6), none⟩,
  ⟨(some 8), .fa 16 (.t 7), none⟩,
  ⟨(some 9), .ld none (.t 8), none⟩,
  ⟨(some 10), .mv (.t 0), none⟩,
  ⟨(some 11), .nilck (.t 10), none⟩,
  ⟨(some 12), .fa 17 (.t 11), none⟩,
  ⟨(some 13), .ld none (.t 12), none⟩,
  ⟨(some 2), .mv (.t 9), none⟩,
  ⟨(some 3), .mv (.t 13), none⟩]
def c_member_Member_Counts : IC := (.seq (.ops o_member_Member_Counts_0) (.seq (.seq (.ops o_member_Member_Counts_1) (.cond (.t 5) (.seq (.ops o_member_Member_Counts_2) .ret) .skip)) (.seq (.ops o_member_Member_Counts_3) .ret)))
def i_member_Member_Counts : IFn := ⟨14, c_member_Member_Counts, [(2, none), (3, none)]⟩

-- F 29 (*rota/member.Member).none: bads 0, calls []
abbrev o_member_Member_none_0 : List IOper := [⟨(some 2), .mv (.k (.c (.bool false))), none⟩]
abbrev o_member_Member_none_1 : List IOper := [⟨(some 3), .mv (.t 0), none⟩,
  ⟨(some 4), .eq .ptr false (.t 3) (.k (.c (.ptr none))), none⟩,
  ⟨(some 5), .mv (.t 4), none⟩,
  ⟨(some 6), .mv (.t 0), some (5, false)⟩,
  ⟨(some 7), .nilck (.t 6), some (5, false)⟩,
  ⟨(some 8), .fa 0 (.t 7), some (5, false)⟩,
  ⟨(some 9), .fa 0 (.t 8), some (5, false)⟩,
  ⟨(some 10), .ld none (.t 9), some (5, false)⟩,
  ⟨(some 11), .bin .eql (.t 10) (.k (.c (.int .i64 0))), some (5, false)⟩,
  ⟨(some 12), .pick (.t 5) (.k (.c (.bool true))) (.t 11), none⟩,
  ⟨(some 2), .mv (.t 12), none⟩]
def c_member_Member_none : IC := (.seq (.ops o_member_Member_none_0) (.seq (.ops o_member_Member_none_1) .ret))
def i_member_Member_none : IFn := ⟨13, c_member_Member_none, [(2, none)]⟩

-- F 30 rota/rotalaw09.count: bads 0, calls []
abbrev o_rotalaw09_count_0 : List IOper := [⟨(some 2), .mv (.k (.c (.int .i64 0))), none⟩]
abbrev o_rotalaw09_count_1 : List IOper := [⟨(some 3), .mv (.k (.c (.int .i64 0))), none⟩]
abbrev o_rotalaw09_count_2 : List IOper := [⟨(some 4), .mv (.t 0), none⟩,
  ⟨(some 5), .bin .gtr (.t 4) (.k (.c (.int .u16 0))), none⟩]
abbrev o_rotalaw09_count_3 : List IOper := [⟨(some 6), .mv (.t 3), none⟩,
  ⟨(some 7), .mv (.t 0), none⟩,
  ⟨(some 8), .bin .rem (.t 7) (.k (.c (.int .u16 2))), none⟩,
  ⟨(some 9), .cv .i64 (.t 8), none⟩,
  ⟨(some 10), .bin .add (.t 6) (.t 9), none⟩,
  ⟨(some 3), .mv (.t 10), none⟩]
abbrev o_rotalaw09_count_4 : List IOper := [⟨(some 11), .mv (.t 0), none⟩,
  ⟨(some 12), .bin .quo (.t 11) (.k (.c (.int .u16 2))), none⟩,
  ⟨(some 0), .mv (.t 12), none⟩]
def b_rotalaw09_count_5 : IC := (.seq (.seq (.ops o_rotalaw09_count_2) (.cond (.t 5) .skip (.exit 0))) (.block 1 (.seq (.ops o_rotalaw09_count_3) (.ops o_rotalaw09_count_4))))
abbrev o_rotalaw09_count_6 : List IOper := [⟨(some 13), .mv (.t 3), none⟩,
  ⟨(some 2), .mv (.t 13), none⟩]
def c_rotalaw09_count : IC := (.seq (.ops o_rotalaw09_count_0) (.seq (.ops o_rotalaw09_count_1) (.seq (.block 0 (.loop b_rotalaw09_count_5)) (.seq (.ops o_rotalaw09_count_6) .ret))))
def i_rotalaw09_count : IFn := ⟨14, c_rotalaw09_count, [(2, none)]⟩

-- F 31 rota/config.Check: bads 0, calls [50]
abbrev o_config_Check_0 : List IOper := [⟨(some 1), .box 28 (.t 0), none⟩,
  ⟨(some 2), .mv (.k (.c (.int .i64 0))), none⟩]
abbrev o_config_Check_1 : List IOper := [⟨(some 3), .mv (.k (.c (.int .i64 21))), none⟩]
abbrev o_config_Check_2 : List IOper := [⟨(some 4), .mv (.t 3), none⟩,
  ⟨(some 5), .bin .leq (.t 4) (.k (.c (.int .i64 26))), none⟩]
abbrev o_config_Check_3 : List IOper := [⟨(some 8), .mv (.t 3), none⟩,
  ⟨(some 9), .ld (some 12) (.t 1), none⟩,
  ⟨(some 10), .call (.k (.c (.fn fn_config_fine [] []))) [(.t 8), (.t 9)], none⟩,
  ⟨(some 11), .un .not (.t 10), none⟩]
abbrev o_config_Check_4 : List IOper := [⟨(some 12), .mv (.t 3), none⟩,
  ⟨(some 2), .mv (.t 12), none⟩]
abbrev o_config_Check_5 : List IOper := [⟨(some 6), .mv (.t 3), none⟩,
  ⟨(some 7), .bin .add (.t 6) (.k (.c (.int .i64 1))), none⟩,
  ⟨(some 3), .mv (.t 7), none⟩]
def b_config_Check_6 : IC := (.seq (.seq (.ops o_config_Check_2) (.cond (.t 5) .skip (.exit 0))) (.seq (.block 1 (.seq (.ops o_config_Check_3) (.cond (.t 11) (.seq (.ops o_config_Check_4) .ret) .skip))) (.ops o_config_Check_5)))
abbrev o_config_Check_7 : List IOper := [⟨(some 2), .mv (.k (.c (.int .i64 0))), none⟩]
def c_config_Check : IC := (.seq (.ops o_config_Check_0) (.seq (.seq (.ops o_config_Check_1) (.block 0 (.loop b_config_Check_6))) (.seq (.ops o_config_Check_7) .ret)))
def i_config_Check : IFn := ⟨13, c_config_Check, [(2, none)]⟩

-- F 32 rota/rotaref02.Check: bads 0, calls [51, 52, 53, 54, 55, 56]
abbrev o_rotaref02_Check_0 : List IOper := [⟨(some 1), .box 28 (.t 0), none⟩,
  ⟨(some 2), .mv (.k (.c (.int .i64 0))), none⟩]
abbrev o_rotaref02_Check_1 : List IOper := [⟨(some 3), .ld (some 12) (.t 1), none⟩,
  ⟨(some 4), .call (.k (.c (.fn fn_rotaref02_nodes [] []))) [(.t 3)], none⟩,
  ⟨(some 5), .un .not (.t 4), none⟩]
abbrev o_rotaref02_Check_2 : List IOper := [⟨(some 2), .mv (.k (.c (.int .i64 21))), none⟩]
abbrev o_rotaref02_Check_3 : List IOper := [⟨(some 6), .ld (some 12) (.t 1), none⟩,
  ⟨(some 7), .call (.k (.c (.fn fn_rotaref02_clock [] []))) [(.t 6)], none⟩,
  ⟨(some 8), .un .not (.t 7), none⟩]
abbrev o_rotaref02_Check_4 : List IOper := [⟨(some 2), .mv (.k (.c (.int .i64 22))), none⟩]
abbrev o_rotaref02_Check_5 : List IOper := [⟨(some 9), .ld (some 12) (.t 1), none⟩,
  ⟨(some 10), .call (.k (.c (.fn fn_rotaref02_parts [] []))) [(.t 9)], none⟩,
  ⟨(some 11), .un .not (.t 10), none⟩]
abbrev o_rotaref02_Check_6 : List IOper := [⟨(some 2), .mv (.k (.c (.int .i64 23))), none⟩]
abbrev o_rotaref02_Check_7 : List IOper := [⟨(some 12), .ld (some 12) (.t 1), none⟩,
  ⟨(some 13), .call (.k (.c (.fn fn_rotaref02_windows [] []))) [(.t 12)], none⟩,
  ⟨(some 14), .un .not (.t 13), none⟩]
abbrev o_rotaref02_Check_8 : List IOper := [⟨(some 2), .mv (.k (.c (.int .i64 24))), none⟩]
abbrev o_rotaref02_Check_9 : List IOper := [⟨(some 15), .ld (some 12) (.t 1), none⟩,
  ⟨(some 16), .call (.k (.c (.fn fn_rotaref02_ports [] []))) [(.t 15)], none⟩,
  ⟨(some 17), .un .not (.t 16), none⟩]
abbrev o_rotaref02_Check_10 : List IOper := [⟨(some 2), .mv (.k (.c (.int .i64 25))), none⟩]
abbrev o_rotaref02_Check_11 : List IOper := [⟨(some 18), .ld (some 12) (.t 1), none⟩,
  ⟨(some 19), .call (.k (.c (.fn fn_rotaref02_links [] []))) [(.t 18)], none⟩,
  ⟨(some 20), .un .not (.t 19), none⟩]
abbrev o_rotaref02_Check_12 : List IOper := [⟨(some 2), .mv (.k (.c (.int .i64 26))), none⟩]
abbrev o_rotaref02_Check_13 : List IOper := [⟨(some 2), .mv (.k (.c (.int .i64 0))), none⟩]
def c_rotaref02_Check : IC := (.seq (.ops o_rotaref02_Check_0) (.seq (.seq (.ops o_rotaref02_Check_1) (.cond (.t 5) (.seq (.ops o_rotaref02_Check_2) .ret) .skip)) (.seq (.seq (.ops o_rotaref02_Check_3) (.cond (.t 8) (.seq (.ops o_rotaref02_Check_4) .ret) .skip)) (.seq (.seq (.ops o_rotaref02_Check_5) (.cond (.t 11) (.seq (.ops o_rotaref02_Check_6) .ret) .skip)) (.seq (.seq (.ops o_rotaref02_Check_7) (.cond (.t 14) (.seq (.ops o_rotaref02_Check_8) .ret) .skip)) (.seq (.seq (.ops o_rotaref02_Check_9) (.cond (.t 17) (.seq (.ops o_rotaref02_Check_10) .ret) .skip)) (.seq (.seq (.ops o_rotaref02_Check_11) (.cond (.t 20) (.seq (.ops o_rotaref02_Check_12) .ret) .skip)) (.seq (.ops o_rotaref02_Check_13) .ret))))))))
def i_rotaref02_Check : IFn := ⟨21, c_rotaref02_Check, [(2, none)]⟩

-- F 33 (*rota/rotaref09.Member).Start: bads 0, calls [57]
abbrev o_rotaref09_Member_Start_0 : List IOper := [⟨(some 2), .mv (.t 0), none⟩,
  ⟨(some 3), .call (.k (.c (.fn fn_rotaref09_Member_stop [] []))) [(.t 2)], none⟩]
abbrev o_rotaref09_Member_Start_1 : List IOper := [⟨(some 4), .mv (.t 0), none⟩,
  ⟨(some 5), .nilck (.t 4), none⟩,
  ⟨(some 6), .fa 13 (.t 5), none⟩,
  ⟨none, .st 1 (.t 6) (.k (.c (.int .i64 1))), none⟩]
abbrev o_rotaref09_Member_Start_2 : List IOper := [⟨(some 7), .mv (.t 0), none⟩,
  ⟨(some 8), .nilck (.t 7), none⟩,
  ⟨(some 9), .fa 16 (.t 8), none⟩,
  ⟨none, .st 1 (.t 9) (.k (.c (.int .i64 0))), none⟩]
abbrev o_rotaref09_Member_Start_3 : List IOper := [⟨(some 10), .mv (.t 0), none⟩,
  ⟨(some 11), .nilck (.t 10), none⟩,
  ⟨(some 12), .fa 17 (.t 11), none⟩,
  ⟨none, .st 1 (.t 12) (.k (.c (.int .i64 0))), none⟩]
def c_rotaref09_Member_Start : IC := (.seq (.ops o_rotaref09_Member_Start_0) (.seq (.ops o_rotaref09_Member_Start_1) (.seq (.ops o_rotaref09_Member_Start_2) (.ops o_rotaref09_Member_Start_3))))
def i_rotaref09_Member_Start : IFn := ⟨13, c_rotaref09_Member_Start, []⟩

-- F 34 (*rota/rotaref09.Member).Join: bads 0, calls [57, 58]
abbrev o_rotaref09_Member_Join_0 : List IOper := [⟨(some 4), .mv (.k (.c (.int .i64 0))), none⟩]
abbrev o_rotaref09_Member_Join_1 : List IOper := [⟨(some 6), .mv (.t 1), none⟩,
  ⟨(some 7), .bin .lss (.t 6) (.k (.c (.int .i64 0))), none⟩,
  ⟨(some 8), .mv (.t 7), none⟩,
  ⟨(some 9), .mv (.t 1), some (8, false)⟩,
  ⟨(some 10), .bin .gtr (.t 9) (.k (.c (.int .i64 2147483647))), some (8, false)⟩,
  ⟨(some 11), .pick (.t 8) (.k (.c (.bool true))) (.t 10), none⟩]
abbrev o_rotaref09_Member_Join_2 : List IOper := [⟨(some 4), .mv (.k (.c (.int .i64 2))), none⟩]
abbrev o_rotaref09_Member_Join_3 : List IOper := [⟨(some 12), .mv (.t 0), none⟩,
  ⟨(some 13), .call (.k (.c (.fn fn_rotaref09_Member_stop [] []))) [(.t 12)], none⟩]
abbrev o_rotaref09_Member_Join_4 : List IOper := [⟨(some 14), .mv (.t 0), none⟩,
  ⟨(some 15), .mv (.t 1), none⟩,
  ⟨(some 16), .nilck (.t 14), none⟩,
  ⟨(some 17), .fa 14 (.t 16), none⟩,
  ⟨none, .st 1 (.t 17) (.t 15), none⟩]
abbrev o_rotaref09_Member_Join_5 : List IOper := [⟨(some 5), .mv (.k (.c (.int .i64 0))), none⟩]
abbrev o_rotaref09_Member_Join_6 : List IOper := [⟨(some 18), .mv (.t 5), none⟩,
  ⟨(some 19), .mv (.t 0), none⟩,
  ⟨(some 20), .nilck (.t 19), none⟩,
  ⟨(some 21), .fa 0 (.t 20), none⟩,
  ⟨(some 22), .fa 0 (.t 21), none⟩,
  ⟨(some 23), .ld none (.t 22), none⟩,
  ⟨(some 24), .bin .lss (.t 18) (.t 23), none⟩]
abbrev o_rotaref09_Member_Join_7 : List IOper := [⟨(some 27), .mv (.t 0), none⟩,
  ⟨(some 28), .nilck (.t 27), none⟩,
  ⟨(some 29), .fa 15 (.t 28), none⟩,
  ⟨(some 30), .ld none (.t 29), none⟩,
  ⟨(some 31), .mv (.t 5), none⟩,
  ⟨(some 32), .iaS 1 (.t 30) (.t 31), none⟩,
  ⟨none, .st 1 (.t 32) (.k (.c (.bool true))), none⟩]
abbrev o_rotaref09_Member_Join_8 : List IOper := [⟨(some 25), .mv (.t 5), none⟩,
  ⟨(some 26), .bin .add (.t 25) (.k (.c (.int .i64 1))), none⟩,
  ⟨(some 5), .mv (.t 26), none⟩]
def b_rotaref09_Member_Join_9 : IC := (.seq (.seq (.ops o_rotaref09_Member_Join_6) (.cond (.t 24) .skip (.exit 0))) (.seq (.block 1 (.ops o_rotaref09_Member_Join_7)) (.ops o_rotaref09_Member_Join_8)))
abbrev o_rotaref09_Member_Join_10 : List IOper := [⟨(some 33), .mv (.t 0), none⟩,
  ⟨(some 34), .call (.k (.c (.fn fn_rotaref09_Member_anew [] []))) [(.t 33)], none⟩]
abbrev o_rotaref09_Member_Join_11 : List IOper := [⟨(some 35), .mv (.t 0), none⟩,
  ⟨(some 36), .mv (.t 0), none⟩,
  ⟨(some 37), .nilck (.t 36), none⟩,
  ⟨(some 38), .fa 0 (.t 37), none⟩,
  ⟨(some 39), .fa 0 (.t 38), none⟩,
  ⟨(some 40), .ld none (.t 39), none⟩,
  ⟨(some 41), .nilck (.t 35), none⟩,
  ⟨(some 42), .fa 16 (.t 41), none⟩,
  ⟨none, .st 1 (.t 42) (.t 40), none⟩]
abbrev o_rotaref09_Member_Join_12 : List IOper := [⟨(some 4), .mv (.k (.c (.int .i64 0))), none⟩]
def c_rotaref09_Member_Join : IC := (.seq (.ops o_rotaref09_Member_Join_0) (.seq (.seq (.ops o_rotaref09_Member_Join_1) (.cond (.t 11) (.seq (.ops o_rotaref09_Member_Join_2) .ret) .skip)) (.seq (.ops o_rotaref09_Member_Join_3) (.seq (.ops o_rotaref09_Member_Join_4) (.seq (.seq (.ops o_rotaref09_Member_Join_5) (.block 0 (.loop b_rotaref09_Member_Join_9))) (.seq (.ops o_rotaref09_Member_Join_10) (.seq (.ops o_rotaref09_Member_Join_11) (.seq (.ops o_rotaref09_Member_Join_12) .ret))))))))
def i_rotaref09_Member_Join : IFn := ⟨43, c_rotaref09_Member_Join, [(4, none)]⟩

-- F 35 (*rota/rotaref09.Member).Turn: bads 0, calls [59, 60, 58, 59, 57, 58, 38]
abbrev o_rotaref09_Member_Turn_0 : List IOper := [⟨(some 2), .new 69 (.agg [(.int .i64 0), (.int .u16 0)]), none⟩,
  ⟨(some 3), .mv (.k (.c (.bool false))), none⟩]
abbrev o_rotaref09_Member_Turn_1 : List IOper := [⟨(some 4), .mv (.k (.c (.bool false))), none⟩]
abbrev o_rotaref09_Member_Turn_2 : List IOper := [⟨(some 14), .mv (.t 0), none⟩,
  ⟨(some 15), .nilck (.t 14), none⟩,
  ⟨(some 16), .fa 13 (.t 15), none⟩,
  ⟨(some 17), .ld none (.t 16), none⟩,
  ⟨(some 18), .bin .eql (.t 17) (.k (.c (.int .i64 2))), none⟩,
  ⟨(some 19), .mv (.t 18), none⟩,
  ⟨(some 26), .mv (.t 0), some (19, true)⟩,
  ⟨(some 27), .nilck (.t 26), some (19, true)⟩,
  ⟨(some 28), .fa 12 (.t 27), some (19, true)⟩,
  ⟨(some 29), .ld none (.t 28), some (19, true)⟩,
  ⟨(some 21), .mv (.t 0), some (19, true)⟩,
  ⟨(some 22), .nilck (.t 21), some (19, true)⟩,
  ⟨(some 23), .fa 14 (.t 22), some (19, true)⟩,
  ⟨(some 24), .ld none (.t 23), some (19, true)⟩,
  ⟨(some 20), .mv (.t 0), some (19, true)⟩,
  ⟨(some 25), .call (.k (.c (.fn fn_rotaref09_Member_turn [] []))) [(.t 20), (.t 24)], some (19, true)⟩,
  ⟨none, .same (some none) (.t 28) (.t 29), some (19, true)⟩,
  ⟨(some 30), .bin .neq (.t 25) (.t 29), some (19, true)⟩,
  ⟨(some 31), .mv (.t 30), some (19, true)⟩,
  ⟨(some 36), .mv (.t 0), some (31, false)⟩,
  ⟨(some 37), .nilck (.t 36), some (31, false)⟩,
  ⟨(some 38), .fa 17 (.t 37), some (31, false)⟩,
  ⟨(some 39), .ld none (.t 38), some (31, false)⟩,
  ⟨(some 32), .mv (.t 0), some (31, false)⟩,
  ⟨(some 33), .nilck (.t 32), some (31, false)⟩,
  ⟨(some 34), .fa 16 (.t 33), some (31, false)⟩,
  ⟨(some 35), .ld none (.t 34), some (31, false)⟩,
  ⟨(some 40), .bin .leq (.t 35) (.t 39), some (31, false)⟩,
  ⟨(some 41), .pick (.t 31) (.k (.c (.bool true))) (.t 40), some (19, true)⟩,
  ⟨(some 42), .pick (.t 19) (.t 41) (.k (.c (.bool false))), none⟩,
  ⟨(some 13), .mv (.t 42), none⟩]
abbrev o_rotaref09_Member_Turn_3 : List IOper := [⟨(some 43), .mv (.t 0), none⟩,
  ⟨(some 44), .call (.k (.c (.fn fn_rotaref09_Member_freeze [] []))) [(.t 43)], none⟩]
abbrev o_rotaref09_Member_Turn_4 : List IOper := [⟨(some 46), .mv (.t 0), none⟩,
  ⟨(some 47), .nilck (.t 46), none⟩,
  ⟨(some 48), .fa 13 (.t 47), none⟩,
  ⟨(some 49), .ld none (.t 48), none⟩,
  ⟨(some 50), .bin .eql (.t 49) (.k (.c (.int .i64 2))), none⟩,
  ⟨(some 45), .mv (.t 50), none⟩]
abbrev o_rotaref09_Member_Turn_5 : List IOper := [⟨(some 51), .mv (.t 0), none⟩,
  ⟨(some 52), .nilck (.t 51), none⟩,
  ⟨(some 53), .fa 16 (.t 52), none⟩,
  ⟨none, .st 1 (.t 53) (.k (.c (.int .i64 1))), none⟩]
abbrev o_rotaref09_Member_Turn_6 : List IOper := [⟨(some 54), .mv (.t 0), none⟩,
  ⟨(some 55), .nilck (.t 54), none⟩,
  ⟨(some 56), .fa 17 (.t 55), none⟩,
  ⟨none, .st 1 (.t 56) (.k (.c (.int .i64 0))), none⟩]
abbrev o_rotaref09_Member_Turn_7 : List IOper := [⟨(some 4), .mv (.k (.c (.bool true))), none⟩]
abbrev o_rotaref09_Member_Turn_8 : List IOper := [⟨(some 58), .mv (.t 0), none⟩,
  ⟨(some 59), .nilck (.t 58), none⟩,
  ⟨(some 60), .fa 13 (.t 59), none⟩,
  ⟨(some 61), .ld none (.t 60), none⟩,
  ⟨(some 62), .bin .neq (.t 61) (.k (.c (.int .i64 1))), none⟩,
  ⟨(some 57), .mv (.t 62), none⟩]
abbrev o_rotaref09_Member_Turn_9 : List IOper := [⟨(some 64), .mv (.t 0), none⟩,
  ⟨(some 65), .nilck (.t 64), none⟩,
  ⟨(some 66), .fa 14 (.t 65), none⟩,
  ⟨(some 67), .ld none (.t 66), none⟩,
  ⟨(some 68), .bin .lss (.t 67) (.k (.c (.int .i64 0))), none⟩,
  ⟨(some 69), .mv (.t 68), none⟩,
  ⟨(some 70), .mv (.t 0), some (69, true)⟩,
  ⟨(some 71), .nilck (.t 70), some (69, true)⟩,
  ⟨(some 72), .fa 19 (.t 71), some (69, true)⟩,
  ⟨(some 73), .ld none (.t 72), some (69, true)⟩,
  ⟨(some 74), .mv (.t 0), some (69, true)⟩,
  ⟨(some 75), .nilck (.t 74), some (69, true)⟩,
  ⟨(some 76), .fa 0 (.t 75), some (69, true)⟩,
  ⟨(some 77), .fa 0 (.t 76), some (69, true)⟩,
  ⟨(some 78), .ld none (.t 77), some (69, true)⟩,
  ⟨(some 79), .bin .mul (.k (.c (.int .i64 2))) (.t 78), some (69, true)⟩,
  ⟨(some 80), .bin .lss (.t 73) (.t 79), some (69, true)⟩,
  ⟨(some 81), .pick (.t 69) (.t 80) (.k (.c (.bool false))), none⟩,
  ⟨(some 63), .mv (.t 81), none⟩]
abbrev o_rotaref09_Member_Turn_10 : List IOper := [⟨(some 82), .mv (.t 0), none⟩,
  ⟨(some 83), .nilck (.t 82), none⟩,
  ⟨(some 84), .fa 19 (.t 83), none⟩,
  ⟨(some 85), .ld none (.t 84), none⟩,
  ⟨(some 86), .bin .add (.t 85) (.k (.c (.int .i64 1))), none⟩,
  ⟨(some 87), .nilck (.t 82), none⟩,
  ⟨(some 88), .fa 19 (.t 87), none⟩,
  ⟨none, .st 1 (.t 88) (.t 86), none⟩]
abbrev o_rotaref09_Member_Turn_11 : List IOper := [⟨(some 90), .mv (.t 0), none⟩,
  ⟨(some 91), .nilck (.t 90), none⟩,
  ⟨(some 92), .fa 14 (.t 91), none⟩,
  ⟨(some 93), .ld none (.t 92), none⟩,
  ⟨(some 94), .bin .lss (.t 93) (.k (.c (.int .i64 0))), none⟩,
  ⟨(some 89), .mv (.t 94), none⟩]
abbrev o_rotaref09_Member_Turn_12 : List IOper := [⟨(some 5), .mv (.k (.c (.int .i64 0))), none⟩]
abbrev o_rotaref09_Member_Turn_13 : List IOper := [⟨(some 95), .mv (.t 5), none⟩,
  ⟨(some 96), .mv (.t 0), none⟩,
  ⟨(some 97), .nilck (.t 96), none⟩,
  ⟨(some 98), .fa 0 (.t 97), none⟩,
  ⟨(some 99), .fa 0 (.t 98), none⟩,
  ⟨(some 100), .ld none (.t 99), none⟩,
  ⟨(some 101), .bin .lss (.t 95) (.t 100), none⟩]
abbrev o_rotaref09_Member_Turn_14 : List IOper := [⟨(some 104), .mv (.t 0), none⟩,
  ⟨(some 105), .nilck (.t 104), none⟩,
  ⟨(some 106), .fa 0 (.t 105), none⟩,
  ⟨(some 107), .fa 1 (.t 106), none⟩,
  ⟨(some 108), .ld none (.t 107), none⟩,
  ⟨(some 109), .mv (.t 5), none⟩,
  ⟨(some 110), .iaS 1 (.t 108) (.t 109), none⟩,
  ⟨(some 111), .ld none (.t 110), none⟩,
  ⟨(some 112), .mv (.t 0), none⟩,
  ⟨(some 113), .nilck (.t 112), none⟩,
  ⟨(some 114), .fa 12 (.t 113), none⟩,
  ⟨(some 115), .ld none (.t 114), none⟩,
  ⟨(some 116), .bin .eql (.t 111) (.t 115), none⟩]
abbrev o_rotaref09_Member_Turn_15 : List IOper := [⟨(some 117), .mv (.t 0), none⟩,
  ⟨(some 118), .mv (.t 5), none⟩,
  ⟨(some 119), .nilck (.t 117), none⟩,
  ⟨(some 120), .fa 14 (.t 119), none⟩,
  ⟨none, .st 1 (.t 120) (.t 118), none⟩]
abbrev o_rotaref09_Member_Turn_16 : List IOper := [⟨(some 102), .mv (.t 5), none⟩,
  ⟨(some 103), .bin .add (.t 102) (.k (.c (.int .i64 1))), none⟩,
  ⟨(some 5), .mv (.t 103), none⟩]
def b_rotaref09_Member_Turn_17 : IC := (.seq (.seq (.ops o_rotaref09_Member_Turn_13) (.cond (.t 101) .skip (.exit 1))) (.seq (.block 2 (.seq (.ops o_rotaref09_Member_Turn_14) (.cond (.t 116) (.ops o_rotaref09_Member_Turn_15) .skip))) (.ops o_rotaref09_Member_Turn_16)))
abbrev o_rotaref09_Member_Turn_18 : List IOper := [⟨(some 121), .mv (.t 0), none⟩,
  ⟨(some 122), .call (.k (.c (.fn fn_rotaref09_Member_anew [] []))) [(.t 121)], none⟩]
abbrev o_rotaref09_Member_Turn_19 : List IOper := [⟨(some 4), .mv (.k (.c (.bool true))), none⟩]
abbrev o_rotaref09_Member_Turn_20 : List IOper := [⟨(some 130), .mv (.t 0), none⟩,
  ⟨(some 131), .nilck (.t 130), none⟩,
  ⟨(some 132), .fa 12 (.t 131), none⟩,
  ⟨(some 133), .ld none (.t 132), none⟩,
  ⟨(some 125), .mv (.t 0), none⟩,
  ⟨(some 126), .nilck (.t 125), none⟩,
  ⟨(some 127), .fa 14 (.t 126), none⟩,
  ⟨(some 128), .ld none (.t 127), none⟩,
  ⟨(some 124), .mv (.t 0), none⟩,
  ⟨(some 129), .call (.k (.c (.fn fn_rotaref09_Member_turn [] []))) [(.t 124), (.t 128)], none⟩,
  ⟨none, .same (some none) (.t 132) (.t 133), none⟩,
  ⟨(some 134), .bin .neq (.t 129) (.t 133), none⟩,
  ⟨(some 123), .mv (.t 134), none⟩]
abbrev o_rotaref09_Member_Turn_21 : List IOper := [⟨(some 135), .mv (.t 0), none⟩,
  ⟨(some 136), .call (.k (.c (.fn fn_rotaref09_Member_stop [] []))) [(.t 135)], none⟩]
abbrev o_rotaref09_Member_Turn_22 : List IOper := [⟨(some 138), .mv (.t 0), none⟩,
  ⟨(some 139), .nilck (.t 138), none⟩,
  ⟨(some 140), .fa 18 (.t 139), none⟩,
  ⟨(some 141), .ld none (.t 140), none⟩,
  ⟨(some 142), .mv (.t 0), none⟩,
  ⟨(some 143), .nilck (.t 142), none⟩,
  ⟨(some 144), .fa 0 (.t 143), none⟩,
  ⟨(some 145), .fa 6 (.t 144), none⟩,
  ⟨(some 146), .ld none (.t 145), none⟩,
  ⟨(some 147), .mv (.t 0), none⟩,
  ⟨(some 148), .nilck (.t 147), none⟩,
  ⟨(some 149), .fa 0 (.t 148), none⟩,
  ⟨(some 150), .fa 0 (.t 149), none⟩,
  ⟨(some 151), .ld none (.t 150), none⟩,
  ⟨(some 152), .bin .mul (.t 146) (.t 151), none⟩,
  ⟨(some 153), .mv (.t 0), none⟩,
  ⟨(some 154), .nilck (.t 153), none⟩,
  ⟨(some 155), .fa 0 (.t 154), none⟩,
  ⟨(some 156), .fa 0 (.t 155), none⟩,
  ⟨(some 157), .ld none (.t 156), none⟩,
  ⟨(some 158), .bin .add (.t 152) (.t 157), none⟩,
  ⟨(some 159), .bin .geq (.t 141) (.t 158), none⟩,
  ⟨(some 137), .mv (.t 159), none⟩]
abbrev o_rotaref09_Member_Turn_23 : List IOper := [⟨(some 160), .mv (.t 0), none⟩,
  ⟨(some 161), .call (.k (.c (.fn fn_rotaref09_Member_anew [] []))) [(.t 160)], none⟩]
abbrev o_rotaref09_Member_Turn_24 : List IOper := [⟨(some 4), .mv (.k (.c (.bool true))), none⟩]
abbrev o_rotaref09_Member_Turn_25 : List IOper := [⟨(some 163), .mv (.t 0), none⟩,
  ⟨(some 164), .nilck (.t 163), none⟩,
  ⟨(some 165), .fa 15 (.t 164), none⟩,
  ⟨(some 166), .ld none (.t 165), none⟩,
  ⟨(some 167), .mv (.t 0), none⟩,
  ⟨(some 168), .nilck (.t 167), none⟩,
  ⟨(some 169), .fa 12 (.t 168), none⟩,
  ⟨(some 170), .ld none (.t 169), none⟩,
  ⟨(some 171), .iaS 1 (.t 166) (.t 170), none⟩,
  ⟨(some 172), .ld none (.t 171), none⟩,
  ⟨(some 162), .mv (.t 172), none⟩]
abbrev o_rotaref09_Member_Turn_26 : List IOper := [⟨(some 173), .mv (.t 0), none⟩,
  ⟨(some 174), .nilck (.t 173), none⟩,
  ⟨(some 175), .fa 15 (.t 174), none⟩,
  ⟨(some 176), .ld none (.t 175), none⟩,
  ⟨(some 177), .mv (.t 0), none⟩,
  ⟨(some 178), .nilck (.t 177), none⟩,
  ⟨(some 179), .fa 12 (.t 178), none⟩,
  ⟨(some 180), .ld none (.t 179), none⟩,
  ⟨(some 181), .iaS 1 (.t 176) (.t 180), none⟩,
  ⟨none, .st 1 (.t 181) (.k (.c (.bool false))), none⟩]
abbrev o_rotaref09_Member_Turn_27 : List IOper := [⟨(some 182), .mv (.t 0), none⟩,
  ⟨(some 183), .nilck (.t 182), none⟩,
  ⟨(some 184), .fa 18 (.t 183), none⟩,
  ⟨none, .st 1 (.t 184) (.k (.c (.int .i64 0))), none⟩]
abbrev o_rotaref09_Member_Turn_28 : List IOper := [⟨(some 6), .mv (.t 0), none⟩,
  ⟨(some 7), .nilck (.t 6), none⟩,
  ⟨(some 8), .fa 18 (.t 7), none⟩,
  ⟨(some 9), .ld none (.t 8), none⟩,
  ⟨(some 10), .bin .add (.t 9) (.k (.c (.int .i64 1))), none⟩,
  ⟨(some 11), .nilck (.t 6), none⟩,
  ⟨(some 12), .fa 18 (.t 11), none⟩,
  ⟨none, .st 1 (.t 12) (.t 10), none⟩]
abbrev o_rotaref09_Member_Turn_29 : List IOper := [⟨(some 185), .mv (.t 4), none⟩,
  ⟨(some 186), .un .not (.t 185), none⟩]
abbrev o_rotaref09_Member_Turn_30 : List IOper := [⟨(some 187), .build [(.int .i64 0), (.int .u16 0)] [], none⟩,
  ⟨none, .st 2 (.t 2) (.t 187), none⟩,
  ⟨(some 3), .mv (.k (.c (.bool false))), none⟩]
abbrev o_rotaref09_Member_Turn_31 : List IOper := [⟨(some 192), .mv (.t 0), none⟩,
  ⟨(some 188), .mv (.t 0), none⟩,
  ⟨(some 189), .nilck (.t 188), none⟩,
  ⟨(some 190), .fa 14 (.t 189), none⟩,
  ⟨(some 191), .ld none (.t 190), none⟩,
  ⟨(some 193), .call (.k (.c (.fn fn_rotaref09_Member_Vector [] []))) [(.t 192)], none⟩,
  ⟨none, .same (some none) (.t 190) (.t 191), none⟩,
  ⟨(some 194), .build [(.int .i64 0), (.int .u16 0)] [(0, 1, (.t 191)), (1, 1, (.t 193))], none⟩,
  ⟨none, .st 2 (.t 2) (.t 194), none⟩,
  ⟨(some 3), .mv (.k (.c (.bool true))), none⟩]
def c_rotaref09_Member_Turn : IC := (.seq (.ops o_rotaref09_Member_Turn_0) (.seq (.ops o_rotaref09_Member_Turn_1) (.seq (.block 0 (.seq (.ops o_rotaref09_Member_Turn_2) (.cond (.t 13) (.ops o_rotaref09_Member_Turn_3) (.seq (.ops o_rotaref09_Member_Turn_4) (.cond (.t 45) (.seq (.ops o_rotaref09_Member_Turn_5) (.seq (.ops o_rotaref09_Member_Turn_6) (.ops o_rotaref09_Member_Turn_7))) (.seq (.ops o_rotaref09_Member_Turn_8) (.cond (.t 57) .skip (.seq (.ops o_rotaref09_Member_Turn_9) (.cond (.t 63) (.ops o_rotaref09_Member_Turn_10) (.seq (.ops o_rotaref09_Member_Turn_11) (.cond (.t 89) (.seq (.seq (.ops o_rotaref09_Member_Turn_12) (.block 1 (.loop b_rotaref09_Member_Turn_17))) (.seq (.ops o_rotaref09_Member_Turn_18) (.ops o_rotaref09_Member_Turn_19))) (.seq (.ops o_rotaref09_Member_Turn_20) (.cond (.t 123) (.ops o_rotaref09_Member_Turn_21) (.seq (.ops o_rotaref09_Member_Turn_22) (.cond (.t 137) (.seq (.ops o_rotaref09_Member_Turn_23) (.ops o_rotaref09_Member_Turn_24)) (.seq (.ops o_rotaref09_Member_Turn_25) (.cond (.t 162) (.seq (.ops o_rotaref09_Member_Turn_26) (.ops o_rotaref09_Member_Turn_27)) (.ops o_rotaref09_Member_Turn_28)))))))))))))))))) (.seq (.seq (.ops o_rotaref09_Member_Turn_29) (.cond (.t 186) (.seq (.ops o_rotaref09_Member_Turn_30) .ret) .skip)) (.seq (.ops o_rotaref09_Member_Turn_31) .ret)))))
def i_rotaref09_Member_Turn : IFn := ⟨195, c_rotaref09_Member_Turn, [(2, (some (some 2))), (3, none)]⟩

-- F 36 (*rota/rotaref09.Member).Hear: bads 0, calls [61, 59, 62, 38, 63, 57]
abbrev o_rotaref09_Member_Hear_0 : List IOper := [⟨(some 6), .new 74 (.agg (List.replicate 2 (.int .i64 0) ++ [(.int .u16 0)] ++ List.replicate 64 (.int .u8 0))), none⟩,
  ⟨(some 7), .mv (.k (.c (.bool false))), none⟩]
abbrev o_rotaref09_Member_Hear_1 : List IOper := [⟨(some 12), .mv (.t 0), none⟩,
  ⟨(some 13), .nilck (.t 12), none⟩,
  ⟨(some 14), .fa 13 (.t 13), none⟩,
  ⟨(some 15), .ld none (.t 14), none⟩,
  ⟨(some 16), .bin .eql (.t 15) (.k (.c (.int .i64 0))), none⟩,
  ⟨(some 17), .mv (.t 16), none⟩,
  ⟨(some 18), .mv (.t 0), some (17, false)⟩,
  ⟨(some 19), .nilck (.t 18), some (17, false)⟩,
  ⟨(some 20), .fa 13 (.t 19), some (17, false)⟩,
  ⟨(some 21), .ld none (.t 20), some (17, false)⟩,
  ⟨(some 22), .bin .eql (.t 21) (.k (.c (.int .i64 3))), some (17, false)⟩,
  ⟨(some 23), .pick (.t 17) (.k (.c (.bool true))) (.t 22), none⟩]
abbrev o_rotaref09_Member_Hear_2 : List IOper := [⟨(some 24), .build (List.replicate 2 (.int .i64 0) ++ [(.int .u16 0)] ++ List.replicate 64 (.int .u8 0)) [], none⟩,
  ⟨none, .st 67 (.t 6) (.t 24), none⟩,
  ⟨(some 7), .mv (.k (.c (.bool false))), none⟩]
abbrev o_rotaref09_Member_Hear_3 : List IOper := [⟨(some 25), .mv (.t 0), none⟩,
  ⟨(some 26), .nilck (.t 25), none⟩,
  ⟨(some 27), .fa 14 (.t 26), none⟩,
  ⟨(some 28), .ld none (.t 27), none⟩,
  ⟨(some 29), .bin .lss (.t 28) (.k (.c (.int .i64 0))), none⟩]
abbrev o_rotaref09_Member_Hear_4 : List IOper := [⟨(some 30), .mv (.t 0), none⟩,
  ⟨(some 31), .mv (.t 1), none⟩,
  ⟨(some 32), .mv (.t 2), none⟩,
  ⟨(some 33), .call (.k (.c (.fn fn_rotaref09_Member_find [] []))) [(.t 30), (.t 31), (.t 32)], none⟩,
  ⟨(some 34), .ext (.t 33) 0, none⟩,
  ⟨(some 35), .ext (.t 33) 1, none⟩,
  ⟨none, .st 67 (.t 6) (.t 34), none⟩,
  ⟨(some 7), .mv (.t 35), none⟩]
abbrev o_rotaref09_Member_Hear_5 : List IOper := [⟨(some 36), .mv (.t 0), none⟩,
  ⟨(some 37), .mv (.t 0), none⟩,
  ⟨(some 38), .nilck (.t 37), none⟩,
  ⟨(some 39), .fa 14 (.t 38), none⟩,
  ⟨(some 40), .ld none (.t 39), none⟩,
  ⟨(some 41), .call (.k (.c (.fn fn_rotaref09_Member_turn [] []))) [(.t 36), (.t 40)], none⟩,
  ⟨(some 8), .mv (.t 41), none⟩]
abbrev o_rotaref09_Member_Hear_6 : List IOper := [⟨(some 42), .mv (.t 8), none⟩,
  ⟨(some 43), .mv (.t 0), none⟩,
  ⟨(some 44), .nilck (.t 43), none⟩,
  ⟨(some 45), .fa 12 (.t 44), none⟩,
  ⟨(some 46), .ld none (.t 45), none⟩,
  ⟨(some 47), .bin .eql (.t 42) (.t 46), none⟩]
abbrev o_rotaref09_Member_Hear_7 : List IOper := [⟨(some 48), .mv (.t 0), none⟩,
  ⟨(some 49), .call (.k (.c (.fn fn_rotaref09_Member_astray [] []))) [(.t 48)], none⟩]
abbrev o_rotaref09_Member_Hear_8 : List IOper := [⟨(some 50), .build (List.replicate 2 (.int .i64 0) ++ [(.int .u16 0)] ++ List.replicate 64 (.int .u8 0)) [], none⟩,
  ⟨none, .st 67 (.t 6) (.t 50), none⟩,
  ⟨(some 7), .mv (.k (.c (.bool false))), none⟩]
abbrev o_rotaref09_Member_Hear_9 : List IOper := [⟨(some 51), .mv (.t 0), none⟩,
  ⟨(some 52), .nilck (.t 51), none⟩,
  ⟨(some 53), .fa 15 (.t 52), none⟩,
  ⟨(some 54), .ld none (.t 53), none⟩,
  ⟨(some 55), .mv (.t 8), none⟩,
  ⟨(some 56), .iaS 1 (.t 54) (.t 55), none⟩,
  ⟨(some 57), .ld none (.t 56), none⟩,
  ⟨(some 9), .mv (.t 57), none⟩]
abbrev o_rotaref09_Member_Hear_10 : List IOper := [⟨(some 58), .mv (.t 0), none⟩,
  ⟨(some 59), .nilck (.t 58), none⟩,
  ⟨(some 60), .fa 15 (.t 59), none⟩,
  ⟨(some 61), .ld none (.t 60), none⟩,
  ⟨(some 62), .mv (.t 8), none⟩,
  ⟨(some 63), .iaS 1 (.t 61) (.t 62), none⟩,
  ⟨none, .st 1 (.t 63) (.k (.c (.bool true))), none⟩]
abbrev o_rotaref09_Member_Hear_11 : List IOper := [⟨(some 64), .mv (.t 2), none⟩,
  ⟨(some 65), .un .not (.t 64), none⟩]
abbrev o_rotaref09_Member_Hear_12 : List IOper := [⟨(some 73), .mv (.t 0), none⟩,
  ⟨(some 69), .mv (.t 0), none⟩,
  ⟨(some 70), .nilck (.t 69), none⟩,
  ⟨(some 71), .fa 14 (.t 70), none⟩,
  ⟨(some 72), .ld none (.t 71), none⟩,
  ⟨(some 68), .mv (.t 8), none⟩,
  ⟨(some 67), .mv (.t 1), none⟩,
  ⟨(some 74), .call (.k (.c (.fn fn_rotaref09_Member_Vector [] []))) [(.t 73)], none⟩,
  ⟨none, .same (some none) (.t 71) (.t 72), none⟩,
  ⟨(some 75), .build [(.int .i64 0), (.int .u16 0)] [(0, 1, (.t 72)), (1, 1, (.t 74))], none⟩,
  ⟨(some 76), .call (.k (.c (.fn fn_rotaref03_Accept [] []))) [(.t 67), (.t 68), (.t 75)], none⟩,
  ⟨(some 66), .mv (.t 76), none⟩,
  ⟨(some 78), .ext (.t 66) 1, none⟩,
  ⟨(some 77), .ext (.t 66) 0, none⟩,
  ⟨(some 10), .new 74 (.agg (List.replicate 2 (.int .i64 0) ++ [(.int .u16 0)] ++ List.replicate 64 (.int .u8 0))), none⟩,
  ⟨none, .st 67 (.t 10) (.t 77), none⟩,
  ⟨(some 11), .mv (.t 78), none⟩]
abbrev o_rotaref09_Member_Hear_13 : List IOper := [⟨(some 79), .mv (.t 11), none⟩,
  ⟨(some 80), .bin .eql (.t 79) (.k (.c (.int .i64 0))), none⟩]
abbrev o_rotaref09_Member_Hear_14 : List IOper := [⟨(some 81), .mv (.t 0), none⟩,
  ⟨(some 82), .nilck (.t 81), none⟩,
  ⟨(some 83), .fa 13 (.t 82), none⟩,
  ⟨(some 84), .ld none (.t 83), none⟩,
  ⟨(some 85), .bin .eql (.t 84) (.k (.c (.int .i64 2))), none⟩]
abbrev o_rotaref09_Member_Hear_15 : List IOper := [⟨(some 86), .mv (.t 0), none⟩,
  ⟨(some 87), .nilck (.t 86), none⟩,
  ⟨(some 88), .fa 16 (.t 87), none⟩,
  ⟨(some 89), .ld none (.t 88), none⟩,
  ⟨(some 90), .bin .add (.t 89) (.k (.c (.int .i64 1))), none⟩,
  ⟨(some 91), .nilck (.t 86), none⟩,
  ⟨(some 92), .fa 16 (.t 91), none⟩,
  ⟨none, .st 1 (.t 92) (.t 90), none⟩]
abbrev o_rotaref09_Member_Hear_16 : List IOper := [⟨(some 93), .mv (.t 0), none⟩,
  ⟨(some 94), .nilck (.t 93), none⟩,
  ⟨(some 95), .fa 18 (.t 94), none⟩,
  ⟨(some 96), .ld none (.t 95), none⟩,
  ⟨(some 97), .bin .add (.t 96) (.k (.c (.int .i64 1))), none⟩,
  ⟨(some 98), .nilck (.t 93), none⟩,
  ⟨(some 99), .fa 18 (.t 98), none⟩,
  ⟨none, .st 1 (.t 99) (.t 97), none⟩]
abbrev o_rotaref09_Member_Hear_17 : List IOper := [⟨(some 100), .ld (some 67) (.t 10), none⟩,
  ⟨none, .st 67 (.t 6) (.t 100), none⟩,
  ⟨(some 7), .mv (.k (.c (.bool true))), none⟩]
abbrev o_rotaref09_Member_Hear_18 : List IOper := [⟨(some 101), .mv (.t 0), none⟩,
  ⟨(some 102), .nilck (.t 101), none⟩,
  ⟨(some 103), .fa 15 (.t 102), none⟩,
  ⟨(some 104), .ld none (.t 103), none⟩,
  ⟨(some 105), .mv (.t 8), none⟩,
  ⟨(some 106), .iaS 1 (.t 104) (.t 105), none⟩,
  ⟨none, .st 1 (.t 106) (.k (.c (.bool false))), none⟩]
abbrev o_rotaref09_Member_Hear_19 : List IOper := [⟨(some 107), .mv (.t 0), none⟩,
  ⟨(some 108), .nilck (.t 107), none⟩,
  ⟨(some 109), .fa 13 (.t 108), none⟩,
  ⟨(some 110), .ld none (.t 109), none⟩,
  ⟨(some 111), .bin .eql (.t 110) (.k (.c (.int .i64 2))), none⟩]
abbrev o_rotaref09_Member_Hear_20 : List IOper := [⟨(some 112), .mv (.t 2), none⟩,
  ⟨(some 113), .un .not (.t 112), none⟩,
  ⟨(some 114), .mv (.t 113), none⟩,
  ⟨(some 115), .mv (.t 9), some (114, false)⟩,
  ⟨(some 116), .pick (.t 114) (.k (.c (.bool true))) (.t 115), none⟩]
abbrev o_rotaref09_Member_Hear_21 : List IOper := [⟨(some 117), .mv (.t 0), none⟩,
  ⟨(some 118), .nilck (.t 117), none⟩,
  ⟨(some 119), .fa 17 (.t 118), none⟩,
  ⟨(some 120), .ld none (.t 119), none⟩,
  ⟨(some 121), .bin .add (.t 120) (.k (.c (.int .i64 1))), none⟩,
  ⟨(some 122), .nilck (.t 117), none⟩,
  ⟨(some 123), .fa 17 (.t 122), none⟩,
  ⟨none, .st 1 (.t 123) (.t 121), none⟩]
abbrev o_rotaref09_Member_Hear_22 : List IOper := [⟨(some 124), .build (List.replicate 2 (.int .i64 0) ++ [(.int .u16 0)] ++ List.replicate 64 (.int .u8 0)) [], none⟩,
  ⟨none, .st 67 (.t 6) (.t 124), none⟩,
  ⟨(some 7), .mv (.k (.c (.bool false))), none⟩]
abbrev o_rotaref09_Member_Hear_23 : List IOper := [⟨(some 125), .mv (.t 2), none⟩,
  ⟨(some 126), .un .not (.t 125), none⟩]
abbrev o_rotaref09_Member_Hear_24 : List IOper := [⟨(some 127), .mv (.t 0), none⟩,
  ⟨(some 128), .call (.k (.c (.fn fn_rotaref09_Member_stop [] []))) [(.t 127)], none⟩]
abbrev o_rotaref09_Member_Hear_25 : List IOper := [⟨(some 129), .mv (.t 9), none⟩]
abbrev o_rotaref09_Member_Hear_26 : List IOper := [⟨(some 130), .mv (.t 0), none⟩,
  ⟨(some 131), .nilck (.t 130), none⟩,
  ⟨(some 132), .fa 18 (.t 131), none⟩,
  ⟨none, .st 1 (.t 132) (.k (.c (.int .i64 0))), none⟩]
abbrev o_rotaref09_Member_Hear_27 : List IOper := [⟨(some 133), .mv (.t 0), none⟩,
  ⟨(some 134), .nilck (.t 133), none⟩,
  ⟨(some 135), .fa 18 (.t 134), none⟩,
  ⟨(some 136), .ld none (.t 135), none⟩,
  ⟨(some 137), .bin .add (.t 136) (.k (.c (.int .i64 1))), none⟩,
  ⟨(some 138), .nilck (.t 133), none⟩,
  ⟨(some 139), .fa 18 (.t 138), none⟩,
  ⟨none, .st 1 (.t 139) (.t 137), none⟩]
abbrev o_rotaref09_Member_Hear_28 : List IOper := [⟨(some 140), .build (List.replicate 2 (.int .i64 0) ++ [(.int .u16 0)] ++ List.replicate 64 (.int .u8 0)) [], none⟩,
  ⟨none, .st 67 (.t 6) (.t 140), none⟩,
  ⟨(some 7), .mv (.k (.c (.bool false))), none⟩]
def c_rotaref09_Member_Hear : IC := (.seq (.ops o_rotaref09_Member_Hear_0) (.seq (.seq (.ops o_rotaref09_Member_Hear_1) (.cond (.t 23) (.seq (.ops o_rotaref09_Member_Hear_2) .ret) .skip)) (.seq (.seq (.ops o_rotaref09_Member_Hear_3) (.cond (.t 29) (.seq (.ops o_rotaref09_Member_Hear_4) .ret) .skip)) (.seq (.ops o_rotaref09_Member_Hear_5) (.seq (.seq (.ops o_rotaref09_Member_Hear_6) (.cond (.t 47) (.seq (.ops o_rotaref09_Member_Hear_7) (.seq (.ops o_rotaref09_Member_Hear_8) .ret)) .skip)) (.seq (.ops o_rotaref09_Member_Hear_9) (.seq (.ops o_rotaref09_Member_Hear_10) (.seq (.seq (.ops o_rotaref09_Member_Hear_11) (.cond (.t 65) (.seq (.ops o_rotaref09_Member_Hear_12) (.seq (.ops o_rotaref09_Member_Hear_13) (.cond (.t 80) (.seq (.seq (.ops o_rotaref09_Member_Hear_14) (.cond (.t 85) (.ops o_rotaref09_Member_Hear_15) (.ops o_rotaref09_Member_Hear_16))) (.seq (.ops o_rotaref09_Member_Hear_17) .ret)) .skip))) .skip)) (.seq (.ops o_rotaref09_Member_Hear_18) (.seq (.seq (.ops o_rotaref09_Member_Hear_19) (.cond (.t 111) (.seq (.seq (.ops o_rotaref09_Member_Hear_20) (.cond (.t 116) (.ops o_rotaref09_Member_Hear_21) .skip)) (.seq (.ops o_rotaref09_Member_Hear_22) .ret)) .skip)) (.seq (.seq (.ops o_rotaref09_Member_Hear_23) (.cond (.t 126) (.ops o_rotaref09_Member_Hear_24) (.seq (.ops o_rotaref09_Member_Hear_25) (.cond (.t 129) (.ops o_rotaref09_Member_Hear_26) (.ops o_rotaref09_Member_Hear_27))))) (.seq (.ops o_rotaref09_Member_Hear_28) .ret))))))))))))
def i_rotaref09_Member_Hear : IFn := ⟨141, c_rotaref09_Member_Hear, [(6, (some (some 67))), (7, none)]⟩

-- F 37 (*rota/rotaref09.Member).Next: bads 0, calls [62]
abbrev o_rotaref09_Member_Next_0 : List IOper := [⟨(some 2), .mv (.t 0), none⟩,
  ⟨(some 3), .nilck (.t 2), none⟩,
  ⟨(some 4), .fa 14 (.t 3), none⟩,
  ⟨(some 5), .ld none (.t 4), none⟩,
  ⟨(some 6), .bin .eql (.t 5) (.k (.c (.int .i64 2147483647))), none⟩]
abbrev o_rotaref09_Member_Next_1 : List IOper := [⟨(some 7), .mv (.t 0), none⟩,
  ⟨(some 8), .call (.k (.c (.fn fn_rotaref09_Member_astray [] []))) [(.t 7)], none⟩]
abbrev o_rotaref09_Member_Next_2 : List IOper := [⟨(some 9), .mv (.t 0), none⟩,
  ⟨(some 10), .nilck (.t 9), none⟩,
  ⟨(some 11), .fa 14 (.t 10), none⟩,
  ⟨(some 12), .ld none (.t 11), none⟩,
  ⟨(some 13), .bin .geq (.t 12) (.k (.c (.int .i64 0))), none⟩]
abbrev o_rotaref09_Member_Next_3 : List IOper := [⟨(some 14), .mv (.t 0), none⟩,
  ⟨(some 15), .nilck (.t 14), none⟩,
  ⟨(some 16), .fa 14 (.t 15), none⟩,
  ⟨(some 17), .ld none (.t 16), none⟩,
  ⟨(some 18), .bin .add (.t 17) (.k (.c (.int .i64 1))), none⟩,
  ⟨(some 19), .nilck (.t 14), none⟩,
  ⟨(some 20), .fa 14 (.t 19), none⟩,
  ⟨none, .st 1 (.t 20) (.t 18), none⟩]
def c_rotaref09_Member_Next : IC := (.seq (.ops o_rotaref09_Member_Next_0) (.cond (.t 6) (.ops o_rotaref09_Member_Next_1) (.seq (.ops o_rotaref09_Member_Next_2) (.cond (.t 13) (.ops o_rotaref09_Member_Next_3) .skip))))
def i_rotaref09_Member_Next : IFn := ⟨21, c_rotaref09_Member_Next, []⟩

-- F 38 (*rota/rotaref09.Member).Vector: bads 0, calls []
abbrev o_rotaref09_Member_Vector_0 : List IOper := [⟨(some 2), .mv (.k (.c (.int .u16 0))), none⟩]
abbrev o_rotaref09_Member_Vector_1 : List IOper := [⟨(some 3), .mv (.k (.c (.int .u16 0))), none⟩]
abbrev o_rotaref09_Member_Vector_2 : List IOper := [⟨(some 4), .mv (.k (.c (.int .u16 1))), none⟩]
abbrev o_rotaref09_Member_Vector_3 : List IOper := [⟨(some 5), .mv (.k (.c (.int .i64 0))), none⟩]
abbrev o_rotaref09_Member_Vector_4 : List IOper := [⟨(some 6), .mv (.t 5), none⟩,
  ⟨(some 7), .mv (.t 0), none⟩,
  ⟨(some 8), .nilck (.t 7), none⟩,
  ⟨(some 9), .fa 15 (.t 8), none⟩,
  ⟨(some 10), .ld none (.t 9), none⟩,
  ⟨(some 11), .len false (.t 10), none⟩,
  ⟨(some 12), .bin .lss (.t 6) (.t 11), none⟩]
abbrev o_rotaref09_Member_Vector_5 : List IOper := [⟨(some 15), .mv (.t 0), none⟩,
  ⟨(some 16), .nilck (.t 15), none⟩,
  ⟨(some 17), .fa 15 (.t 16), none⟩,
  ⟨(some 18), .ld none (.t 17), none⟩,
  ⟨(some 19), .mv (.t 5), none⟩,
  ⟨(some 20), .iaS 1 (.t 18) (.t 19), none⟩,
  ⟨(some 21), .ld none (.t 20), none⟩]
abbrev o_rotaref09_Member_Vector_6 : List IOper := [⟨(some 22), .mv (.t 3), none⟩,
  ⟨(some 23), .mv (.t 4), none⟩,
  ⟨(some 24), .bin .add (.t 22) (.t 23), none⟩,
  ⟨(some 3), .mv (.t 24), none⟩]
abbrev o_rotaref09_Member_Vector_7 : List IOper := [⟨(some 25), .mv (.t 4), none⟩,
  ⟨(some 26), .bin .mul (.k (.c (.int .u16 2))) (.t 25), none⟩,
  ⟨(some 4), .mv (.t 26), none⟩]
abbrev o_rotaref09_Member_Vector_8 : List IOper := [⟨(some 13), .mv (.t 5), none⟩,
  ⟨(some 14), .bin .add (.t 13) (.k (.c (.int .i64 1))), none⟩,
  ⟨(some 5), .mv (.t 14), none⟩]
def b_rotaref09_Member_Vector_9 : IC := (.seq (.seq (.ops o_rotaref09_Member_Vector_4) (.cond (.t 12) .skip (.exit 0))) (.seq (.block 1 (.seq (.seq (.ops o_rotaref09_Member_Vector_5) (.cond (.t 21) (.ops o_rotaref09_Member_Vector_6) .skip)) (.ops o_rotaref09_Member_Vector_7))) (.ops o_rotaref09_Member_Vector_8)))
abbrev o_rotaref09_Member_Vector_10 : List IOper := [⟨(some 27), .mv (.t 3), none⟩,
  ⟨(some 2), .mv (.t 27), none⟩]
def c_rotaref09_Member_Vector : IC := (.seq (.ops o_rotaref09_Member_Vector_0) (.seq (.ops o_rotaref09_Member_Vector_1) (.seq (.ops o_rotaref09_Member_Vector_2) (.seq (.seq (.ops o_rotaref09_Member_Vector_3) (.block 0 (.loop b_rotaref09_Member_Vector_9))) (.seq (.ops o_rotaref09_Member_Vector_10) .ret)))))
def i_rotaref09_Member_Vector : IFn := ⟨28, c_rotaref09_Member_Vector, [(2, none)]⟩

-- F 39 (*rota/member.Member).stop: bads 0, calls []
abbrev o_member_Member_stop_0 : List IOper := [⟨(some 2), .mv (.t 0), none⟩,
  ⟨(some 3), .mv (.t 0), none⟩,
  ⟨(some 4), .mv (.t 0), none⟩,
  ⟨(some 5), .mv (.t 0), none⟩,
  ⟨(some 6), .nilck (.t 2), none⟩,
  ⟨(some 7), .fa 14 (.t 6), none⟩,
  ⟨none, .st 1 (.t 7) (.k (.c (.int .i64 (-1)))), none⟩,
  ⟨(some 8), .nilck (.t 3), none⟩,
  ⟨(some 9), .fa 15 (.t 8), none⟩,
  ⟨none, .st 1 (.t 9) (.k (.c (.int .u16 0))), none⟩,
  ⟨(some 10), .nilck (.t 4), none⟩,
  ⟨(some 11), .fa 18 (.t 10), none⟩,
  ⟨none, .st 1 (.t 11) (.k (.c (.int .i64 0))), none⟩,
  ⟨(some 12), .nilck (.t 5), none⟩,
  ⟨(some 13), .fa 19 (.t 12), none⟩,
  ⟨none, .st 1 (.t 13) (.k (.c (.int .i64 0))), none⟩]
def c_member_Member_stop : IC := (.ops o_member_Member_stop_0)
def i_member_Member_stop : IFn := ⟨14, c_member_Member_stop, []⟩

-- F 40 (*rota/member.Member).all: bads 0, calls [64]
abbrev o_member_Member_all_0 : List IOper := [⟨(some 2), .mv (.k (.c (.int .u16 0))), none⟩]
abbrev o_member_Member_all_1 : List IOper := [⟨(some 3), .new 35 (.c (.int .u16 0)), none⟩,
  ⟨none, .st 1 (.t 3) (.k (.c (.int .u16 0))), none⟩]
abbrev o_member_Member_all_2 : List IOper := [⟨(some 5), .mv (.t 0), none⟩,
  ⟨(some 6), .call (.k (.c (.fn fn_member_Member_bits [] []))) [(.t 5)], none⟩]
abbrev o_member_Member_all_3 : List IOper := [⟨(some 4), .mv (.t 7), none⟩]
abbrev o_member_Member_all_4 : List IOper := [⟨(some 8), .ld none (.t 3), none⟩,
  ⟨(some 9), .mv (.t 4), none⟩,
  ⟨(some 10), .bin .or (.t 8) (.t 9), none⟩,
  ⟨none, .st 1 (.t 3) (.t 10), none⟩]
def a_member_Member_all_5 : IC := (.ops o_member_Member_all_3)
def b_member_Member_all_6 : IC := (.block 1 (.ops o_member_Member_all_4))
abbrev o_member_Member_all_7 : List IOper := [⟨(some 11), .ld none (.t 3), none⟩,
  ⟨(some 2), .mv (.t 11), none⟩]
def c_member_Member_all : IC := (.seq (.ops o_member_Member_all_0) (.seq (.ops o_member_Member_all_1) (.seq (.seq (.ops o_member_Member_all_2) (.block 0 (.rangeF (.t 6) [7] a_member_Member_all_5 b_member_Member_all_6))) (.seq (.ops o_member_Member_all_7) .ret))))
def i_member_Member_all : IFn := ⟨12, c_member_Member_all, [(2, none)]⟩

-- F 41 (*rota/member.Member).anew: bads 0, calls []
abbrev o_member_Member_anew_0 : List IOper := [⟨(some 2), .mv (.t 0), none⟩,
  ⟨(some 3), .mv (.t 0), none⟩,
  ⟨(some 4), .mv (.t 0), none⟩,
  ⟨(some 5), .nilck (.t 2), none⟩,
  ⟨(some 6), .fa 13 (.t 5), none⟩,
  ⟨none, .st 1 (.t 6) (.k (.c (.int .i64 2))), none⟩,
  ⟨(some 7), .nilck (.t 3), none⟩,
  ⟨(some 8), .fa 16 (.t 7), none⟩,
  ⟨none, .st 1 (.t 8) (.k (.c (.int .i64 1))), none⟩,
  ⟨(some 9), .nilck (.t 4), none⟩,
  ⟨(some 10), .fa 17 (.t 9), none⟩,
  ⟨none, .st 1 (.t 10) (.k (.c (.int .i64 0))), none⟩]
abbrev o_member_Member_anew_1 : List IOper := [⟨(some 11), .mv (.t 0), none⟩,
  ⟨(some 12), .nilck (.t 11), none⟩,
  ⟨(some 13), .fa 15 (.t 12), none⟩,
  ⟨(some 14), .ld none (.t 13), none⟩,
  ⟨(some 15), .mv (.t 0), none⟩,
  ⟨(some 16), .nilck (.t 15), none⟩,
  ⟨(some 17), .fa 12 (.t 16), none⟩,
  ⟨(some 18), .ld none (.t 17), none⟩,
  ⟨(some 19), .bin .shl (.k (.c (.int .u16 1))) (.t 18), none⟩,
  ⟨(some 20), .bin .or (.t 14) (.t 19), none⟩,
  ⟨(some 21), .nilck (.t 11), none⟩,
  ⟨(some 22), .fa 15 (.t 21), none⟩,
  ⟨none, .st 1 (.t 22) (.t 20), none⟩]
def c_member_Member_anew : IC := (.seq (.ops o_member_Member_anew_0) (.ops o_member_Member_anew_1))
def i_member_Member_anew : IFn := ⟨23, c_member_Member_anew, []⟩

-- F 42 (*rota/member.Member).turnActive: bads 0, calls [46, 65]
abbrev o_member_Member_turnActive_0 : List IOper := [⟨(some 2), .mv (.k (.c (.bool false))), none⟩]
abbrev o_member_Member_turnActive_1 : List IOper := [⟨(some 9), .mv (.t 0), none⟩,
  ⟨(some 10), .nilck (.t 9), none⟩,
  ⟨(some 11), .fa 12 (.t 10), none⟩,
  ⟨(some 12), .ld none (.t 11), none⟩,
  ⟨(some 4), .mv (.t 0), none⟩,
  ⟨(some 5), .nilck (.t 4), none⟩,
  ⟨(some 6), .fa 14 (.t 5), none⟩,
  ⟨(some 7), .ld none (.t 6), none⟩,
  ⟨(some 3), .mv (.t 0), none⟩,
  ⟨(some 8), .call (.k (.c (.fn fn_member_Member_turn [] []))) [(.t 3), (.t 7)], none⟩,
  ⟨none, .same (some none) (.t 11) (.t 12), none⟩,
  ⟨(some 13), .bin .neq (.t 8) (.t 12), none⟩,
  ⟨(some 14), .mv (.t 13), none⟩,
  ⟨(some 19), .mv (.t 0), some (14, false)⟩,
  ⟨(some 20), .nilck (.t 19), some (14, false)⟩,
  ⟨(some 21), .fa 17 (.t 20), some (14, false)⟩,
  ⟨(some 22), .ld none (.t 21), some (14, false)⟩,
  ⟨(some 15), .mv (.t 0), some (14, false)⟩,
  ⟨(some 16), .nilck (.t 15), some (14, false)⟩,
  ⟨(some 17), .fa 16 (.t 16), some (14, false)⟩,
  ⟨(some 18), .ld none (.t 17), some (14, false)⟩,
  ⟨(some 23), .bin .leq (.t 18) (.t 22), some (14, false)⟩,
  ⟨(some 24), .pick (.t 14) (.k (.c (.bool true))) (.t 23), none⟩]
abbrev o_member_Member_turnActive_2 : List IOper := [⟨(some 25), .mv (.t 0), none⟩,
  ⟨(some 26), .call (.k (.c (.fn fn_member_Member_freeze [] []))) [(.t 25)], none⟩]
abbrev o_member_Member_turnActive_3 : List IOper := [⟨(some 2), .mv (.k (.c (.bool false))), none⟩]
abbrev o_member_Member_turnActive_4 : List IOper := [⟨(some 27), .mv (.t 0), none⟩,
  ⟨(some 28), .mv (.t 0), none⟩,
  ⟨(some 29), .nilck (.t 27), none⟩,
  ⟨(some 30), .fa 16 (.t 29), none⟩,
  ⟨none, .st 1 (.t 30) (.k (.c (.int .i64 1))), none⟩,
  ⟨(some 31), .nilck (.t 28), none⟩,
  ⟨(some 32), .fa 17 (.t 31), none⟩,
  ⟨none, .st 1 (.t 32) (.k (.c (.int .i64 0))), none⟩]
abbrev o_member_Member_turnActive_5 : List IOper := [⟨(some 2), .mv (.k (.c (.bool true))), none⟩]
def c_member_Member_turnActive : IC := (.seq (.ops o_member_Member_turnActive_0) (.seq (.seq (.ops o_member_Member_turnActive_1) (.cond (.t 24) (.seq (.ops o_member_Member_turnActive_2) (.seq (.ops o_member_Member_turnActive_3) .ret)) .skip)) (.seq (.ops o_member_Member_turnActive_4) (.seq (.ops o_member_Member_turnActive_5) .ret))))
def i_member_Member_turnActive : IFn := ⟨33, c_member_Member_turnActive, [(2, none)]⟩

end Go.Proofs.YtlpmganbofgdfaaDoor.AM.F09
