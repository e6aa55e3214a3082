/- The functions of these laws as the abstract machine's code, printed by a program of this claim's. -/
import Derived.Test.YtlpmganbofgdfaaDoorIRF09a
set_option linter.unusedVariables false
set_option linter.unusedSimpArgs false
set_option linter.unusedSectionVars false
namespace Go.Proofs.YtlpmganbofgdfaaDoor.AM.F09
open Go Go.Proofs.YtlpmganbofgdfaaDoor.AM
-- F 43 (*rota/member.Member).turnListen: bads 0, calls [41, 46, 39, 41]
abbrev o_member_Member_turnListen_0 : List IOper := [⟨(some 2), .mv (.k (.c (.bool false))), none⟩]
abbrev o_member_Member_turnListen_1 : List IOper := [⟨(some 6), .mv (.t 0), none⟩,
  ⟨(some 7), .nilck (.t 6), none⟩,
  ⟨(some 8), .fa 12 (.t 7), none⟩,
  ⟨(some 9), .ld none (.t 8), none⟩,
  ⟨(some 10), .bin .shl (.k (.c (.int .u16 1))) (.t 9), none⟩,
  ⟨(some 3), .mv (.t 10), none⟩]
abbrev o_member_Member_turnListen_2 : List IOper := [⟨(some 19), .mv (.t 0), none⟩,
  ⟨(some 20), .nilck (.t 19), none⟩,
  ⟨(some 21), .fa 14 (.t 20), none⟩,
  ⟨(some 22), .ld none (.t 21), none⟩,
  ⟨(some 23), .bin .lss (.t 22) (.k (.c (.int .i64 0))), none⟩,
  ⟨(some 24), .mv (.t 23), none⟩,
  ⟨(some 25), .mv (.t 0), some (24, true)⟩,
  ⟨(some 26), .nilck (.t 25), some (24, true)⟩,
  ⟨(some 27), .fa 19 (.t 26), some (24, true)⟩,
  ⟨(some 28), .ld none (.t 27), some (24, true)⟩,
  ⟨(some 29), .mv (.t 0), some (24, true)⟩,
  ⟨(some 30), .nilck (.t 29), some (24, true)⟩,
  ⟨(some 31), .fa 0 (.t 30), some (24, true)⟩,
  ⟨(some 32), .fa 0 (.t 31), some (24, true)⟩,
  ⟨(some 33), .ld none (.t 32), some (24, true)⟩,
  ⟨(some 34), .bin .mul (.k (.c (.int .i64 2))) (.t 33), some (24, true)⟩,
  ⟨(some 35), .bin .geq (.t 28) (.t 34), some (24, true)⟩,
  ⟨(some 36), .pick (.t 24) (.t 35) (.k (.c (.bool false))), none⟩,
  ⟨(some 18), .mv (.t 36), none⟩]
abbrev o_member_Member_turnListen_3 : List IOper := [⟨(some 37), .mv (.t 0), none⟩,
  ⟨(some 38), .nilck (.t 37), none⟩,
  ⟨(some 39), .fa 0 (.t 38), none⟩,
  ⟨(some 40), .fa 1 (.t 39), none⟩,
  ⟨(some 41), .ld none (.t 40), none⟩,
  ⟨(some 42), .len false (.t 41), none⟩,
  ⟨(some 43), .mv (.k (.c (.int .i64 0))), none⟩]
abbrev o_member_Member_turnListen_4 : List IOper := [⟨(some 44), .bin .lss (.t 43) (.t 42), none⟩]
abbrev o_member_Member_turnListen_5 : List IOper := [⟨(some 45), .mv (.t 43), none⟩,
  ⟨(some 46), .iaS 1 (.t 41) (.t 43), none⟩,
  ⟨(some 47), .ld none (.t 46), none⟩,
  ⟨(some 4), .mv (.t 45), none⟩,
  ⟨(some 5), .mv (.t 47), none⟩]
abbrev o_member_Member_turnListen_6 : List IOper := [⟨(some 48), .mv (.t 5), none⟩,
  ⟨(some 49), .mv (.t 0), none⟩,
  ⟨(some 50), .nilck (.t 49), none⟩,
  ⟨(some 51), .fa 12 (.t 50), none⟩,
  ⟨(some 52), .ld none (.t 51), none⟩,
  ⟨(some 53), .bin .eql (.t 48) (.t 52), none⟩]
abbrev o_member_Member_turnListen_7 : List IOper := [⟨(some 54), .mv (.t 0), none⟩,
  ⟨(some 55), .mv (.t 4), none⟩,
  ⟨(some 56), .nilck (.t 54), none⟩,
  ⟨(some 57), .fa 14 (.t 56), none⟩,
  ⟨none, .st 1 (.t 57) (.t 55), none⟩]
abbrev o_member_Member_turnListen_8 : List IOper := [⟨(some 58), .bin .add (.t 43) (.k (.c (.int .i64 1))), none⟩,
  ⟨(some 43), .mv (.t 58), none⟩]
def b_member_Member_turnListen_9 : IC := (.seq (.ops o_member_Member_turnListen_4) (.seq (.cond (.t 44) .skip (.exit 1)) (.seq (.block 2 (.seq (.ops o_member_Member_turnListen_5) (.seq (.ops o_member_Member_turnListen_6) (.cond (.t 53) (.ops o_member_Member_turnListen_7) .skip)))) (.ops o_member_Member_turnListen_8))))
abbrev o_member_Member_turnListen_10 : List IOper := [⟨(some 59), .mv (.t 0), none⟩,
  ⟨(some 60), .call (.k (.c (.fn fn_member_Member_anew [] []))) [(.t 59)], none⟩]
abbrev o_member_Member_turnListen_11 : List IOper := [⟨(some 2), .mv (.k (.c (.bool true))), none⟩]
abbrev o_member_Member_turnListen_12 : List IOper := [⟨(some 62), .mv (.t 0), none⟩,
  ⟨(some 63), .nilck (.t 62), none⟩,
  ⟨(some 64), .fa 14 (.t 63), none⟩,
  ⟨(some 65), .ld none (.t 64), none⟩,
  ⟨(some 66), .bin .lss (.t 65) (.k (.c (.int .i64 0))), none⟩,
  ⟨(some 61), .mv (.t 66), none⟩]
abbrev o_member_Member_turnListen_13 : List IOper := [⟨(some 67), .mv (.t 0), none⟩,
  ⟨(some 68), .nilck (.t 67), none⟩,
  ⟨(some 69), .fa 19 (.t 68), none⟩,
  ⟨(some 70), .ld none (.t 69), none⟩,
  ⟨(some 71), .bin .add (.t 70) (.k (.c (.int .i64 1))), none⟩,
  ⟨(some 72), .nilck (.t 67), none⟩,
  ⟨(some 73), .fa 19 (.t 72), none⟩,
  ⟨none, .st 1 (.t 73) (.t 71), none⟩]
abbrev o_member_Member_turnListen_14 : List IOper := [⟨(some 81), .mv (.t 0), none⟩,
  ⟨(some 82), .nilck (.t 81), none⟩,
  ⟨(some 83), .fa 12 (.t 82), none⟩,
  ⟨(some 84), .ld none (.t 83), none⟩,
  ⟨(some 76), .mv (.t 0), none⟩,
  ⟨(some 77), .nilck (.t 76), none⟩,
  ⟨(some 78), .fa 14 (.t 77), none⟩,
  ⟨(some 79), .ld none (.t 78), none⟩,
  ⟨(some 75), .mv (.t 0), none⟩,
  ⟨(some 80), .call (.k (.c (.fn fn_member_Member_turn [] []))) [(.t 75), (.t 79)], none⟩,
  ⟨none, .same (some none) (.t 83) (.t 84), none⟩,
  ⟨(some 85), .bin .neq (.t 80) (.t 84), none⟩,
  ⟨(some 74), .mv (.t 85), none⟩]
abbrev o_member_Member_turnListen_15 : List IOper := [⟨(some 86), .mv (.t 0), none⟩,
  ⟨(some 87), .call (.k (.c (.fn fn_member_Member_stop [] []))) [(.t 86)], none⟩]
abbrev o_member_Member_turnListen_16 : List IOper := [⟨(some 89), .mv (.t 0), none⟩,
  ⟨(some 90), .nilck (.t 89), none⟩,
  ⟨(some 91), .fa 18 (.t 90), none⟩,
  ⟨(some 92), .ld none (.t 91), none⟩,
  ⟨(some 93), .mv (.t 0), none⟩,
  ⟨(some 94), .nilck (.t 93), none⟩,
  ⟨(some 95), .fa 0 (.t 94), none⟩,
  ⟨(some 96), .fa 6 (.t 95), none⟩,
  ⟨(some 97), .ld none (.t 96), none⟩,
  ⟨(some 98), .bin .add (.t 97) (.k (.c (.int .i64 1))), none⟩,
  ⟨(some 99), .mv (.t 0), none⟩,
  ⟨(some 100), .nilck (.t 99), none⟩,
  ⟨(some 101), .fa 0 (.t 100), none⟩,
  ⟨(some 102), .fa 0 (.t 101), none⟩,
  ⟨(some 103), .ld none (.t 102), none⟩,
  ⟨(some 104), .bin .mul (.t 98) (.t 103), none⟩,
  ⟨(some 105), .bin .geq (.t 92) (.t 104), none⟩,
  ⟨(some 88), .mv (.t 105), none⟩]
abbrev o_member_Member_turnListen_17 : List IOper := [⟨(some 106), .mv (.t 0), none⟩,
  ⟨(some 107), .call (.k (.c (.fn fn_member_Member_anew [] []))) [(.t 106)], none⟩]
abbrev o_member_Member_turnListen_18 : List IOper := [⟨(some 2), .mv (.k (.c (.bool true))), none⟩]
abbrev o_member_Member_turnListen_19 : List IOper := [⟨(some 109), .mv (.t 0), none⟩,
  ⟨(some 110), .nilck (.t 109), none⟩,
  ⟨(some 111), .fa 15 (.t 110), none⟩,
  ⟨(some 112), .ld none (.t 111), none⟩,
  ⟨(some 113), .mv (.t 3), none⟩,
  ⟨(some 114), .bin .and (.t 112) (.t 113), none⟩,
  ⟨(some 115), .bin .neq (.t 114) (.k (.c (.int .u16 0))), none⟩,
  ⟨(some 108), .mv (.t 115), none⟩]
abbrev o_member_Member_turnListen_20 : List IOper := [⟨(some 116), .mv (.t 0), none⟩,
  ⟨(some 117), .nilck (.t 116), none⟩,
  ⟨(some 118), .fa 15 (.t 117), none⟩,
  ⟨(some 119), .ld none (.t 118), none⟩,
  ⟨(some 120), .mv (.t 3), none⟩,
  ⟨(some 121), .bin .andNot (.t 119) (.t 120), none⟩,
  ⟨(some 122), .nilck (.t 116), none⟩,
  ⟨(some 123), .fa 15 (.t 122), none⟩,
  ⟨none, .st 1 (.t 123) (.t 121), none⟩]
abbrev o_member_Member_turnListen_21 : List IOper := [⟨(some 124), .mv (.t 0), none⟩,
  ⟨(some 125), .nilck (.t 124), none⟩,
  ⟨(some 126), .fa 18 (.t 125), none⟩,
  ⟨none, .st 1 (.t 126) (.k (.c (.int .i64 0))), none⟩]
abbrev o_member_Member_turnListen_22 : List IOper := [⟨(some 11), .mv (.t 0), none⟩,
  ⟨(some 12), .nilck (.t 11), none⟩,
  ⟨(some 13), .fa 18 (.t 12), none⟩,
  ⟨(some 14), .ld none (.t 13), none⟩,
  ⟨(some 15), .bin .add (.t 14) (.k (.c (.int .i64 1))), none⟩,
  ⟨(some 16), .nilck (.t 11), none⟩,
  ⟨(some 17), .fa 18 (.t 16), none⟩,
  ⟨none, .st 1 (.t 17) (.t 15), none⟩]
abbrev o_member_Member_turnListen_23 : List IOper := [⟨(some 2), .mv (.k (.c (.bool false))), none⟩]
def c_member_Member_turnListen : IC := (.seq (.ops o_member_Member_turnListen_0) (.seq (.ops o_member_Member_turnListen_1) (.seq (.block 0 (.seq (.ops o_member_Member_turnListen_2) (.cond (.t 18) (.seq (.seq (.ops o_member_Member_turnListen_3) (.block 1 (.loop b_member_Member_turnListen_9))) (.seq (.ops o_member_Member_turnListen_10) (.seq (.ops o_member_Member_turnListen_11) .ret))) (.seq (.ops o_member_Member_turnListen_12) (.cond (.t 61) (.ops o_member_Member_turnListen_13) (.seq (.ops o_member_Member_turnListen_14) (.cond (.t 74) (.ops o_member_Member_turnListen_15) (.seq (.ops o_member_Member_turnListen_16) (.cond (.t 88) (.seq (.ops o_member_Member_turnListen_17) (.seq (.ops o_member_Member_turnListen_18) .ret)) (.seq (.ops o_member_Member_turnListen_19) (.cond (.t 108) (.seq (.ops o_member_Member_turnListen_20) (.ops o_member_Member_turnListen_21)) (.ops o_member_Member_turnListen_22)))))))))))) (.seq (.ops o_member_Member_turnListen_23) .ret))))
def i_member_Member_turnListen : IFn := ⟨127, c_member_Member_turnListen, [(2, none)]⟩

-- F 44 (*rota/member.Member).astray: bads 0, calls [65, 39]
abbrev o_member_Member_astray_0 : List IOper := [⟨(some 2), .mv (.t 0), none⟩,
  ⟨(some 3), .nilck (.t 2), none⟩,
  ⟨(some 4), .fa 13 (.t 3), none⟩,
  ⟨(some 5), .ld none (.t 4), none⟩,
  ⟨(some 6), .bin .eql (.t 5) (.k (.c (.int .i64 2))), none⟩]
abbrev o_member_Member_astray_1 : List IOper := [⟨(some 7), .mv (.t 0), none⟩,
  ⟨(some 8), .call (.k (.c (.fn fn_member_Member_freeze [] []))) [(.t 7)], none⟩]
abbrev o_member_Member_astray_2 : List IOper := [⟨(some 9), .mv (.t 0), none⟩,
  ⟨(some 10), .call (.k (.c (.fn fn_member_Member_stop [] []))) [(.t 9)], none⟩]
def c_member_Member_astray : IC := (.seq (.seq (.ops o_member_Member_astray_0) (.cond (.t 6) (.seq (.ops o_member_Member_astray_1) .ret) .skip)) (.ops o_member_Member_astray_2))
def i_member_Member_astray : IFn := ⟨11, c_member_Member_astray, []⟩

-- F 45 (*rota/member.Member).find: bads 0, calls [66, 46, 40]
abbrev o_member_Member_find_0 : List IOper := [⟨(some 6), .new 74 (.agg (List.replicate 2 (.int .i64 0) ++ [(.int .u16 0)] ++ List.replicate 64 (.int .u8 0))), none⟩,
  ⟨(some 7), .mv (.k (.c (.bool false))), none⟩]
abbrev o_member_Member_find_1 : List IOper := [⟨(some 10), .mv (.t 2), none⟩]
abbrev o_member_Member_find_2 : List IOper := [⟨(some 11), .mv (.t 0), none⟩,
  ⟨(some 12), .nilck (.t 11), none⟩,
  ⟨(some 13), .fa 19 (.t 12), none⟩,
  ⟨(some 14), .ld none (.t 13), none⟩,
  ⟨(some 15), .bin .add (.t 14) (.k (.c (.int .i64 1))), none⟩,
  ⟨(some 16), .nilck (.t 11), none⟩,
  ⟨(some 17), .fa 19 (.t 16), none⟩,
  ⟨none, .st 1 (.t 17) (.t 15), none⟩]
abbrev o_member_Member_find_3 : List IOper := [⟨(some 18), .build (List.replicate 2 (.int .i64 0) ++ [(.int .u16 0)] ++ List.replicate 64 (.int .u8 0)) [], none⟩,
  ⟨none, .st 67 (.t 6) (.t 18), none⟩,
  ⟨(some 7), .mv (.k (.c (.bool false))), none⟩]
abbrev o_member_Member_find_4 : List IOper := [⟨(some 19), .mv (.t 0), none⟩,
  ⟨(some 20), .nilck (.t 19), none⟩,
  ⟨(some 21), .fa 19 (.t 20), none⟩,
  ⟨none, .st 1 (.t 21) (.k (.c (.int .i64 0))), none⟩]
abbrev o_member_Member_find_5 : List IOper := [⟨(some 23), .mv (.t 1), none⟩,
  ⟨(some 24), .call (.k (.c (.fn fn_frame_Decode [] []))) [(.t 23)], none⟩,
  ⟨(some 22), .mv (.t 24), none⟩,
  ⟨(some 25), .ext (.t 22) 0, none⟩,
  ⟨(some 26), .ext (.t 22) 1, none⟩,
  ⟨(some 8), .new 74 (.agg (List.replicate 2 (.int .i64 0) ++ [(.int .u16 0)] ++ List.replicate 64 (.int .u8 0))), none⟩,
  ⟨none, .st 67 (.t 8) (.t 25), none⟩,
  ⟨(some 9), .mv (.t 26), none⟩]
abbrev o_member_Member_find_6 : List IOper := [⟨(some 27), .mv (.t 9), none⟩,
  ⟨(some 28), .bin .neq (.t 27) (.k (.c (.int .i64 0))), none⟩,
  ⟨(some 29), .mv (.t 28), none⟩,
  ⟨(some 32), .mv (.t 0), some (29, false)⟩,
  ⟨(some 33), .nilck (.t 32), some (29, false)⟩,
  ⟨(some 34), .fa 12 (.t 33), some (29, false)⟩,
  ⟨(some 35), .ld none (.t 34), some (29, false)⟩,
  ⟨(some 30), .fa 0 (.t 8), some (29, false)⟩,
  ⟨(some 31), .ld none (.t 30), some (29, false)⟩,
  ⟨(some 36), .bin .eql (.t 31) (.t 35), some (29, false)⟩,
  ⟨(some 37), .pick (.t 29) (.k (.c (.bool true))) (.t 36), none⟩,
  ⟨(some 38), .mv (.t 37), none⟩,
  ⟨(some 44), .fa 0 (.t 8), some (38, false)⟩,
  ⟨(some 45), .ld none (.t 44), some (38, false)⟩,
  ⟨(some 40), .fa 1 (.t 8), some (38, false)⟩,
  ⟨(some 41), .fa 0 (.t 40), some (38, false)⟩,
  ⟨(some 42), .ld none (.t 41), some (38, false)⟩,
  ⟨(some 39), .mv (.t 0), some (38, false)⟩,
  ⟨(some 43), .call (.k (.c (.fn fn_member_Member_turn [] []))) [(.t 39), (.t 42)], some (38, false)⟩,
  ⟨none, .same (some none) (.t 44) (.t 45), some (38, false)⟩,
  ⟨(some 46), .bin .neq (.t 43) (.t 45), some (38, false)⟩,
  ⟨(some 47), .pick (.t 38) (.k (.c (.bool true))) (.t 46), none⟩,
  ⟨(some 48), .mv (.t 47), none⟩,
  ⟨(some 52), .fa 0 (.t 8), some (48, false)⟩,
  ⟨(some 53), .ld none (.t 52), some (48, false)⟩,
  ⟨(some 54), .bin .shl (.k (.c (.int .u16 1))) (.t 53), some (48, false)⟩,
  ⟨(some 49), .fa 1 (.t 8), some (48, false)⟩,
  ⟨(some 50), .fa 1 (.t 49), some (48, false)⟩,
  ⟨(some 51), .ld none (.t 50), some (48, false)⟩,
  ⟨(some 55), .bin .and (.t 51) (.t 54), some (48, false)⟩,
  ⟨(some 56), .bin .eql (.t 55) (.k (.c (.int .u16 0))), some (48, false)⟩,
  ⟨(some 57), .pick (.t 48) (.k (.c (.bool true))) (.t 56), none⟩,
  ⟨(some 58), .mv (.t 57), none⟩,
  ⟨(some 62), .mv (.t 0), some (58, false)⟩,
  ⟨(some 59), .fa 1 (.t 8), some (58, false)⟩,
  ⟨(some 60), .fa 1 (.t 59), some (58, false)⟩,
  ⟨(some 61), .ld none (.t 60), some (58, false)⟩,
  ⟨(some 63), .call (.k (.c (.fn fn_member_Member_all [] []))) [(.t 62)], some (58, false)⟩,
  ⟨none, .same (some none) (.t 60) (.t 61), some (58, false)⟩,
  ⟨(some 64), .bin .andNot (.t 61) (.t 63), some (58, false)⟩,
  ⟨(some 65), .bin .neq (.t 64) (.k (.c (.int .u16 0))), some (58, false)⟩,
  ⟨(some 66), .pick (.t 58) (.k (.c (.bool true))) (.t 65), none⟩]
abbrev o_member_Member_find_7 : List IOper := [⟨(some 67), .build (List.replicate 2 (.int .i64 0) ++ [(.int .u16 0)] ++ List.replicate 64 (.int .u8 0)) [], none⟩,
  ⟨none, .st 67 (.t 6) (.t 67), none⟩,
  ⟨(some 7), .mv (.k (.c (.bool false))), none⟩]
abbrev o_member_Member_find_8 : List IOper := [⟨(some 74), .fa 1 (.t 8), none⟩,
  ⟨(some 75), .fa 1 (.t 74), none⟩,
  ⟨(some 76), .ld none (.t 75), none⟩,
  ⟨(some 71), .fa 1 (.t 8), none⟩,
  ⟨(some 72), .fa 0 (.t 71), none⟩,
  ⟨(some 73), .ld none (.t 72), none⟩,
  ⟨(some 70), .mv (.t 0), none⟩,
  ⟨(some 69), .mv (.t 0), none⟩,
  ⟨(some 68), .mv (.t 0), none⟩,
  ⟨(some 77), .nilck (.t 68), none⟩,
  ⟨(some 78), .fa 14 (.t 77), none⟩,
  ⟨none, .st 1 (.t 78) (.t 73), none⟩,
  ⟨none, .same (some none) (.t 75) (.t 76), none⟩,
  ⟨(some 79), .nilck (.t 69), none⟩,
  ⟨(some 80), .fa 15 (.t 79), none⟩,
  ⟨none, .st 1 (.t 80) (.t 76), none⟩,
  ⟨(some 81), .nilck (.t 70), none⟩,
  ⟨(some 82), .fa 18 (.t 81), none⟩,
  ⟨none, .st 1 (.t 82) (.k (.c (.int .i64 1))), none⟩]
abbrev o_member_Member_find_9 : List IOper := [⟨(some 83), .ld (some 67) (.t 8), none⟩,
  ⟨none, .st 67 (.t 6) (.t 83), none⟩,
  ⟨(some 7), .mv (.k (.c (.bool true))), none⟩]
def c_member_Member_find : IC := (.seq (.ops o_member_Member_find_0) (.seq (.seq (.ops o_member_Member_find_1) (.cond (.t 10) (.seq (.ops o_member_Member_find_2) (.seq (.ops o_member_Member_find_3) .ret)) .skip)) (.seq (.ops o_member_Member_find_4) (.seq (.ops o_member_Member_find_5) (.seq (.seq (.ops o_member_Member_find_6) (.cond (.t 66) (.seq (.ops o_member_Member_find_7) .ret) .skip)) (.seq (.ops o_member_Member_find_8) (.seq (.ops o_member_Member_find_9) .ret)))))))
def i_member_Member_find : IFn := ⟨84, c_member_Member_find, [(6, (some (some 67))), (7, none)]⟩

-- F 46 (*rota/member.Member).turn: bads 0, calls []
abbrev o_member_Member_turn_0 : List IOper := [⟨(some 4), .mv (.k (.c (.int .i64 0))), none⟩]
abbrev o_member_Member_turn_1 : List IOper := [⟨(some 5), .mv (.t 0), none⟩,
  ⟨(some 6), .nilck (.t 5), none⟩,
  ⟨(some 7), .fa 0 (.t 6), none⟩,
  ⟨(some 8), .fa 1 (.t 7), none⟩,
  ⟨(some 9), .ld none (.t 8), none⟩,
  ⟨(some 10), .mv (.t 1), none⟩,
  ⟨(some 11), .mv (.t 0), none⟩,
  ⟨(some 12), .nilck (.t 11), none⟩,
  ⟨(some 13), .fa 0 (.t 12), none⟩,
  ⟨(some 14), .fa 0 (.t 13), none⟩,
  ⟨(some 15), .ld none (.t 14), none⟩,
  ⟨(some 16), .bin .rem (.t 10) (.t 15), none⟩,
  ⟨(some 17), .iaS 1 (.t 9) (.t 16), none⟩,
  ⟨(some 18), .ld none (.t 17), none⟩,
  ⟨(some 4), .mv (.t 18), none⟩]
def c_member_Member_turn : IC := (.seq (.ops o_member_Member_turn_0) (.seq (.ops o_member_Member_turn_1) .ret))
def i_member_Member_turn : IFn := ⟨19, c_member_Member_turn, [(4, none)]⟩

-- F 47 (*rota/member.Member).judge: bads 0, calls [67]
abbrev o_member_Member_judge_0 : List IOper := [⟨(some 8), .new 74 (.agg (List.replicate 2 (.int .i64 0) ++ [(.int .u16 0)] ++ List.replicate 64 (.int .u8 0))), none⟩,
  ⟨(some 9), .mv (.k (.c (.int .i64 0))), none⟩]
abbrev o_member_Member_judge_1 : List IOper := [⟨(some 12), .mv (.t 3), none⟩]
abbrev o_member_Member_judge_2 : List IOper := [⟨(some 13), .build (List.replicate 2 (.int .i64 0) ++ [(.int .u16 0)] ++ List.replicate 64 (.int .u8 0)) [], none⟩,
  ⟨none, .st 67 (.t 8) (.t 13), none⟩,
  ⟨(some 9), .mv (.k (.c (.int .i64 2))), none⟩]
abbrev o_member_Member_judge_3 : List IOper := [⟨(some 15), .mv (.t 1), none⟩,
  ⟨(some 16), .mv (.t 2), none⟩,
  ⟨(some 17), .mv (.t 0), none⟩,
  ⟨(some 18), .nilck (.t 17), none⟩,
  ⟨(some 19), .fa 14 (.t 18), none⟩,
  ⟨(some 20), .ld none (.t 19), none⟩,
  ⟨(some 21), .mv (.t 0), none⟩,
  ⟨(some 22), .nilck (.t 21), none⟩,
  ⟨(some 23), .fa 15 (.t 22), none⟩,
  ⟨(some 24), .ld none (.t 23), none⟩,
  ⟨(some 25), .mv (.t 2), none⟩,
  ⟨(some 26), .bin .shl (.k (.c (.int .u16 1))) (.t 25), none⟩,
  ⟨(some 27), .bin .or (.t 24) (.t 26), none⟩,
  ⟨(some 28), .build [(.int .i64 0), (.int .u16 0)] [(0, 1, (.t 20)), (1, 1, (.t 27))], none⟩,
  ⟨(some 29), .call (.k (.c (.fn fn_frame_Accept [] []))) [(.t 15), (.t 16), (.t 28)], none⟩,
  ⟨(some 14), .mv (.t 29), none⟩,
  ⟨(some 30), .ext (.t 14) 0, none⟩,
  ⟨(some 31), .ext (.t 14) 1, none⟩,
  ⟨(some 10), .new 74 (.agg (List.replicate 2 (.int .i64 0) ++ [(.int .u16 0)] ++ List.replicate 64 (.int .u8 0))), none⟩,
  ⟨none, .st 67 (.t 10) (.t 30), none⟩,
  ⟨(some 11), .mv (.t 31), none⟩]
abbrev o_member_Member_judge_4 : List IOper := [⟨(some 32), .mv (.t 11), none⟩,
  ⟨(some 33), .bin .neq (.t 32) (.k (.c (.int .i64 0))), none⟩]
abbrev o_member_Member_judge_5 : List IOper := [⟨(some 34), .build (List.replicate 2 (.int .i64 0) ++ [(.int .u16 0)] ++ List.replicate 64 (.int .u8 0)) [], none⟩,
  ⟨none, .st 67 (.t 8) (.t 34), none⟩,
  ⟨(some 9), .mv (.k (.c (.int .i64 1))), none⟩]
abbrev o_member_Member_judge_6 : List IOper := [⟨(some 35), .ld (some 67) (.t 10), none⟩,
  ⟨none, .st 67 (.t 8) (.t 35), none⟩,
  ⟨(some 9), .mv (.k (.c (.int .i64 0))), none⟩]
def c_member_Member_judge : IC := (.seq (.ops o_member_Member_judge_0) (.seq (.seq (.ops o_member_Member_judge_1) (.cond (.t 12) (.seq (.ops o_member_Member_judge_2) .ret) .skip)) (.seq (.ops o_member_Member_judge_3) (.seq (.seq (.ops o_member_Member_judge_4) (.cond (.t 33) (.seq (.ops o_member_Member_judge_5) .ret) .skip)) (.seq (.ops o_member_Member_judge_6) .ret)))))
def i_member_Member_judge : IFn := ⟨36, c_member_Member_judge, [(8, (some (some 67))), (9, none)]⟩

-- F 48 rota/frame.state: bads 0, calls []
abbrev o_frame_state_0 : List IOper := [⟨(some 1), .box 69 (.t 0), none⟩,
  ⟨(some 2), .mv (.k (.c (.sl none 0 0 false))), none⟩]
abbrev o_frame_state_1 : List IOper := [⟨(some 4), .fa 0 (.t 1), none⟩,
  ⟨(some 5), .ld none (.t 4), none⟩,
  ⟨(some 6), .cv .u32 (.t 5), none⟩,
  ⟨(some 3), .mv (.t 6), none⟩]
abbrev o_frame_state_2 : List IOper := [⟨(some 7), .mv (.t 3), none⟩,
  ⟨(some 8), .bin .shr (.t 7) (.k (.c (.int .u64 24))), none⟩,
  ⟨(some 9), .cv .u8 (.t 8), none⟩,
  ⟨(some 10), .mv (.t 3), none⟩,
  ⟨(some 11), .bin .shr (.t 10) (.k (.c (.int .u64 16))), none⟩,
  ⟨(some 12), .cv .u8 (.t 11), none⟩,
  ⟨(some 13), .mv (.t 3), none⟩,
  ⟨(some 14), .bin .shr (.t 13) (.k (.c (.int .u64 8))), none⟩,
  ⟨(some 15), .cv .u8 (.t 14), none⟩,
  ⟨(some 16), .mv (.t 3), none⟩,
  ⟨(some 17), .cv .u8 (.t 16), none⟩,
  ⟨(some 18), .fa 1 (.t 1), none⟩,
  ⟨(some 19), .ld none (.t 18), none⟩,
  ⟨(some 20), .bin .shr (.t 19) (.k (.c (.int .u64 8))), none⟩,
  ⟨(some 21), .cv .u8 (.t 20), none⟩,
  ⟨(some 22), .fa 1 (.t 1), none⟩,
  ⟨(some 23), .ld none (.t 22), none⟩,
  ⟨(some 24), .cv .u8 (.t 23), none⟩,
  ⟨(some 25), .bsl 5 6 (List.replicate 6 (.int .u8 0)) [(0, 1, (.t 9)), (1, 1, (.t 12)), (2, 1, (.t 15)), (3, 1, (.t 17)), (4, 1, (.t 21)), (5, 1, (.t 24))], none⟩,
  ⟨(some 2), .mv (.t 25), none⟩]
def c_frame_state : IC := (.seq (.ops o_frame_state_0) (.seq (.ops o_frame_state_1) (.seq (.ops o_frame_state_2) .ret)))
def i_frame_state : IFn := ⟨26, c_frame_state, [(2, none)]⟩

-- F 49 rota/sum.Sum: bads 0, calls [68]
abbrev o_sum_Sum_0 : List IOper := [⟨(some 2), .mv (.k (.c (.int .u32 0))), none⟩]
abbrev o_sum_Sum_1 : List IOper := [⟨(some 3), .mv (.t 0), none⟩,
  ⟨(some 4), .call (.k (.c (.fn fn_sum_More [] []))) [(.k (.c (.int .u32 0))), (.t 3)], none⟩,
  ⟨(some 2), .mv (.t 4), none⟩]
def c_sum_Sum : IC := (.seq (.ops o_sum_Sum_0) (.seq (.ops o_sum_Sum_1) .ret))
def i_sum_Sum : IFn := ⟨5, c_sum_Sum, [(2, none)]⟩

-- F 50 rota/config.fine: bads 0, calls [69, 70, 71, 72, 73, 74]
abbrev o_config_fine_0 : List IOper := [⟨(some 3), .box 28 (.t 1), none⟩,
  ⟨(some 4), .mv (.k (.c (.bool false))), none⟩]
abbrev o_config_fine_1 : List IOper := [⟨(some 5), .mv (.t 0), none⟩]
abbrev o_config_fine_2 : List IOper := [⟨(some 7), .bin .eql (.t 5) (.k (.c (.int .i64 21))), none⟩,
  ⟨(some 6), .mv (.t 7), none⟩]
abbrev o_config_fine_3 : List IOper := [⟨(some 8), .ld (some 12) (.t 3), none⟩,
  ⟨(some 9), .call (.k (.c (.fn fn_config_nodes [] []))) [(.t 8)], none⟩,
  ⟨(some 4), .mv (.t 9), none⟩]
abbrev o_config_fine_4 : List IOper := [⟨(some 11), .bin .eql (.t 5) (.k (.c (.int .i64 22))), none⟩,
  ⟨(some 10), .mv (.t 11), none⟩]
abbrev o_config_fine_5 : List IOper := [⟨(some 12), .ld (some 12) (.t 3), none⟩,
  ⟨(some 13), .call (.k (.c (.fn fn_config_clocks [] []))) [(.t 12)], none⟩,
  ⟨(some 4), .mv (.t 13), none⟩]
abbrev o_config_fine_6 : List IOper := [⟨(some 15), .bin .eql (.t 5) (.k (.c (.int .i64 23))), none⟩,
  ⟨(some 14), .mv (.t 15), none⟩]
abbrev o_config_fine_7 : List IOper := [⟨(some 16), .ld (some 12) (.t 3), none⟩,
  ⟨(some 17), .call (.k (.c (.fn fn_config_parts [] []))) [(.t 16)], none⟩,
  ⟨(some 4), .mv (.t 17), none⟩]
abbrev o_config_fine_8 : List IOper := [⟨(some 19), .bin .eql (.t 5) (.k (.c (.int .i64 24))), none⟩,
  ⟨(some 18), .mv (.t 19), none⟩]
abbrev o_config_fine_9 : List IOper := [⟨(some 20), .ld (some 12) (.t 3), none⟩,
  ⟨(some 21), .call (.k (.c (.fn fn_config_windows [] []))) [(.t 20)], none⟩,
  ⟨(some 4), .mv (.t 21), none⟩]
abbrev o_config_fine_10 : List IOper := [⟨(some 23), .bin .eql (.t 5) (.k (.c (.int .i64 25))), none⟩,
  ⟨(some 22), .mv (.t 23), none⟩]
abbrev o_config_fine_11 : List IOper := [⟨(some 24), .ld (some 12) (.t 3), none⟩,
  ⟨(some 25), .call (.k (.c (.fn fn_config_ports [] []))) [(.t 24)], none⟩,
  ⟨(some 4), .mv (.t 25), none⟩]
abbrev o_config_fine_12 : List IOper := [⟨(some 26), .ld (some 12) (.t 3), none⟩,
  ⟨(some 27), .call (.k (.c (.fn fn_config_links [] []))) [(.t 26)], none⟩,
  ⟨(some 4), .mv (.t 27), none⟩]
def c_config_fine : IC := (.seq (.ops o_config_fine_0) (.seq (.seq (.ops o_config_fine_1) (.block 0 (.seq (.ops o_config_fine_2) (.cond (.t 6) (.seq (.ops o_config_fine_3) .ret) (.seq (.ops o_config_fine_4) (.cond (.t 10) (.seq (.ops o_config_fine_5) .ret) (.seq (.ops o_config_fine_6) (.cond (.t 14) (.seq (.ops o_config_fine_7) .ret) (.seq (.ops o_config_fine_8) (.cond (.t 18) (.seq (.ops o_config_fine_9) .ret) (.seq (.ops o_config_fine_10) (.cond (.t 22) (.seq (.ops o_config_fine_11) .ret) .skip)))))))))))) (.seq (.ops o_config_fine_12) .ret)))
def i_config_fine : IFn := ⟨28, c_config_fine, [(4, none)]⟩

-- F 51 rota/rotaref02.nodes: bads 0, calls [75]
abbrev o_rotaref02_nodes_0 : List IOper := [⟨(some 1), .box 28 (.t 0), none⟩,
  ⟨(some 2), .mv (.k (.c (.bool false))), none⟩]
abbrev o_rotaref02_nodes_1 : List IOper := [⟨(some 4), .fa 0 (.t 1), none⟩,
  ⟨(some 5), .ld none (.t 4), none⟩,
  ⟨(some 6), .bin .lss (.t 5) (.k (.c (.int .i64 4))), none⟩,
  ⟨(some 7), .mv (.t 6), none⟩,
  ⟨(some 8), .fa 0 (.t 1), some (7, false)⟩,
  ⟨(some 9), .ld none (.t 8), some (7, false)⟩,
  ⟨(some 10), .bin .gtr (.t 9) (.k (.c (.int .i64 16))), some (7, false)⟩,
  ⟨(some 11), .pick (.t 7) (.k (.c (.bool true))) (.t 10), none⟩,
  ⟨(some 12), .mv (.t 11), none⟩,
  ⟨(some 13), .fa 1 (.t 1), some (12, false)⟩,
  ⟨(some 14), .ld none (.t 13), some (12, false)⟩,
  ⟨(some 15), .len false (.t 14), some (12, false)⟩,
  ⟨(some 16), .fa 0 (.t 1), some (12, false)⟩,
  ⟨(some 17), .ld none (.t 16), some (12, false)⟩,
  ⟨(some 18), .bin .neq (.t 15) (.t 17), some (12, false)⟩,
  ⟨(some 19), .pick (.t 12) (.k (.c (.bool true))) (.t 18), none⟩]
abbrev o_rotaref02_nodes_2 : List IOper := [⟨(some 2), .mv (.k (.c (.bool false))), none⟩]
abbrev o_rotaref02_nodes_3 : List IOper := [⟨(some 3), .mv (.k (.c (.int .i64 0))), none⟩]
abbrev o_rotaref02_nodes_4 : List IOper := [⟨(some 20), .mv (.t 3), none⟩,
  ⟨(some 21), .fa 0 (.t 1), none⟩,
  ⟨(some 22), .ld none (.t 21), none⟩,
  ⟨(some 23), .bin .lss (.t 20) (.t 22), none⟩]
abbrev o_rotaref02_nodes_5 : List IOper := [⟨(some 26), .fa 1 (.t 1), none⟩,
  ⟨(some 27), .ld none (.t 26), none⟩,
  ⟨(some 28), .mv (.t 3), none⟩,
  ⟨(some 29), .call (.k (.c (.fn fn_rotaref02_count [] []))) [(.t 27), (.t 28)], none⟩,
  ⟨(some 30), .bin .neq (.t 29) (.k (.c (.int .i64 1))), none⟩]
abbrev o_rotaref02_nodes_6 : List IOper := [⟨(some 2), .mv (.k (.c (.bool false))), none⟩]
abbrev o_rotaref02_nodes_7 : List IOper := [⟨(some 24), .mv (.t 3), none⟩,
  ⟨(some 25), .bin .add (.t 24) (.k (.c (.int .i64 1))), none⟩,
  ⟨(some 3), .mv (.t 25), none⟩]
def b_rotaref02_nodes_8 : IC := (.seq (.seq (.ops o_rotaref02_nodes_4) (.cond (.t 23) .skip (.exit 0))) (.seq (.block 1 (.seq (.ops o_rotaref02_nodes_5) (.cond (.t 30) (.seq (.ops o_rotaref02_nodes_6) .ret) .skip))) (.ops o_rotaref02_nodes_7)))
abbrev o_rotaref02_nodes_9 : List IOper := [⟨(some 2), .mv (.k (.c (.bool true))), none⟩]
def c_rotaref02_nodes : IC := (.seq (.ops o_rotaref02_nodes_0) (.seq (.seq (.ops o_rotaref02_nodes_1) (.cond (.t 19) (.seq (.ops o_rotaref02_nodes_2) .ret) .skip)) (.seq (.seq (.ops o_rotaref02_nodes_3) (.block 0 (.loop b_rotaref02_nodes_8))) (.seq (.ops o_rotaref02_nodes_9) .ret))))
def i_rotaref02_nodes : IFn := ⟨31, c_rotaref02_nodes, [(2, none)]⟩

-- F 52 rota/rotaref02.clock: bads 0, calls [76, 76]
abbrev o_rotaref02_clock_0 : List IOper := [⟨(some 1), .box 28 (.t 0), none⟩,
  ⟨(some 2), .mv (.k (.c (.bool false))), none⟩]
abbrev o_rotaref02_clock_1 : List IOper := [⟨(some 4), .fa 2 (.t 1), none⟩,
  ⟨(some 5), .ld none (.t 4), none⟩,
  ⟨(some 6), .bin .lss (.t 5) (.k (.c (.int .i64 0))), none⟩,
  ⟨(some 7), .mv (.t 6), none⟩,
  ⟨(some 8), .fa 2 (.t 1), some (7, false)⟩,
  ⟨(some 9), .ld none (.t 8), some (7, false)⟩,
  ⟨(some 10), .bin .gtr (.t 9) (.k (.c (.int .i64 1048576))), some (7, false)⟩,
  ⟨(some 11), .pick (.t 7) (.k (.c (.bool true))) (.t 10), none⟩,
  ⟨(some 12), .mv (.t 11), none⟩,
  ⟨(some 13), .fa 3 (.t 1), some (12, false)⟩,
  ⟨(some 14), .ld none (.t 13), some (12, false)⟩,
  ⟨(some 15), .bin .lss (.t 14) (.k (.c (.int .i64 0))), some (12, false)⟩,
  ⟨(some 16), .pick (.t 12) (.k (.c (.bool true))) (.t 15), none⟩,
  ⟨(some 17), .mv (.t 16), none⟩,
  ⟨(some 18), .fa 3 (.t 1), some (17, false)⟩,
  ⟨(some 19), .ld none (.t 18), some (17, false)⟩,
  ⟨(some 20), .bin .gtr (.t 19) (.k (.c (.int .i64 1048576))), some (17, false)⟩,
  ⟨(some 21), .pick (.t 17) (.k (.c (.bool true))) (.t 20), none⟩]
abbrev o_rotaref02_clock_2 : List IOper := [⟨(some 2), .mv (.k (.c (.bool false))), none⟩]
abbrev o_rotaref02_clock_3 : List IOper := [⟨(some 27), .fa 3 (.t 1), none⟩,
  ⟨(some 28), .ld none (.t 27), none⟩,
  ⟨(some 24), .ld (some 12) (.t 1), none⟩,
  ⟨(some 22), .ld (some 12) (.t 1), none⟩,
  ⟨(some 23), .call (.k (.c (.fn fn_rotaref02_Precision [] []))) [(.t 22)], none⟩,
  ⟨none, .same (some none) (.t 27) (.t 28), none⟩,
  ⟨none, .same (some (some 12)) (.t 1) (.t 24), none⟩,
  ⟨(some 25), .call (.k (.c (.fn fn_rotaref02_Precision [] []))) [(.t 24)], none⟩,
  ⟨none, .same (some none) (.t 27) (.t 28), none⟩,
  ⟨(some 26), .bin .add (.t 23) (.t 25), none⟩,
  ⟨(some 29), .bin .add (.t 26) (.t 28), none⟩,
  ⟨(some 3), .mv (.t 29), none⟩]
abbrev o_rotaref02_clock_4 : List IOper := [⟨(some 30), .fa 4 (.t 1), none⟩,
  ⟨(some 31), .ld none (.t 30), none⟩,
  ⟨(some 32), .mv (.t 3), none⟩,
  ⟨(some 33), .bin .geq (.t 31) (.t 32), none⟩,
  ⟨(some 34), .mv (.t 33), none⟩,
  ⟨(some 35), .fa 4 (.t 1), some (34, true)⟩,
  ⟨(some 36), .ld none (.t 35), some (34, true)⟩,
  ⟨(some 37), .bin .leq (.t 36) (.k (.c (.int .i64 16777216))), some (34, true)⟩,
  ⟨(some 38), .pick (.t 34) (.t 37) (.k (.c (.bool false))), none⟩,
  ⟨(some 39), .mv (.t 38), none⟩,
  ⟨(some 40), .fa 5 (.t 1), some (39, true)⟩,
  ⟨(some 41), .ld none (.t 40), some (39, true)⟩,
  ⟨(some 42), .mv (.t 3), some (39, true)⟩,
  ⟨(some 43), .bin .geq (.t 41) (.t 42), some (39, true)⟩,
  ⟨(some 44), .pick (.t 39) (.t 43) (.k (.c (.bool false))), none⟩,
  ⟨(some 45), .mv (.t 44), none⟩,
  ⟨(some 46), .fa 5 (.t 1), some (45, true)⟩,
  ⟨(some 47), .ld none (.t 46), some (45, true)⟩,
  ⟨(some 48), .bin .leq (.t 47) (.k (.c (.int .i64 16777216))), some (45, true)⟩,
  ⟨(some 49), .pick (.t 45) (.t 48) (.k (.c (.bool false))), none⟩,
  ⟨(some 50), .mv (.t 49), none⟩,
  ⟨(some 51), .fa 6 (.t 1), some (50, true)⟩,
  ⟨(some 52), .ld none (.t 51), some (50, true)⟩,
  ⟨(some 53), .bin .geq (.t 52) (.k (.c (.int .i64 1))), some (50, true)⟩,
  ⟨(some 54), .pick (.t 50) (.t 53) (.k (.c (.bool false))), none⟩,
  ⟨(some 55), .mv (.t 54), none⟩,
  ⟨(some 56), .fa 6 (.t 1), some (55, true)⟩,
  ⟨(some 57), .ld none (.t 56), some (55, true)⟩,
  ⟨(some 58), .bin .leq (.t 57) (.k (.c (.int .i64 8))), some (55, true)⟩,
  ⟨(some 59), .pick (.t 55) (.t 58) (.k (.c (.bool false))), none⟩,
  ⟨(some 60), .mv (.t 59), none⟩,
  ⟨(some 61), .fa 7 (.t 1), some (60, true)⟩,
  ⟨(some 62), .ld none (.t 61), some (60, true)⟩,
  ⟨(some 63), .bin .geq (.t 62) (.k (.c (.int .i64 1))), some (60, true)⟩,
  ⟨(some 64), .pick (.t 60) (.t 63) (.k (.c (.bool false))), none⟩,
  ⟨(some 65), .mv (.t 64), none⟩,
  ⟨(some 66), .fa 7 (.t 1), some (65, true)⟩,
  ⟨(some 67), .ld none (.t 66), some (65, true)⟩,
  ⟨(some 68), .bin .leq (.t 67) (.k (.c (.int .i64 16))), some (65, true)⟩,
  ⟨(some 69), .pick (.t 65) (.t 68) (.k (.c (.bool false))), none⟩,
  ⟨(some 2), .mv (.t 69), none⟩]
def c_rotaref02_clock : IC := (.seq (.ops o_rotaref02_clock_0) (.seq (.seq (.ops o_rotaref02_clock_1) (.cond (.t 21) (.seq (.ops o_rotaref02_clock_2) .ret) .skip)) (.seq (.ops o_rotaref02_clock_3) (.seq (.ops o_rotaref02_clock_4) .ret))))
def i_rotaref02_clock : IFn := ⟨70, c_rotaref02_clock, [(2, none)]⟩

-- F 53 rota/rotaref02.parts: bads 0, calls [77]
abbrev o_rotaref02_parts_0 : List IOper := [⟨(some 1), .box 28 (.t 0), none⟩,
  ⟨(some 2), .mv (.k (.c (.bool false))), none⟩]
abbrev o_rotaref02_parts_1 : List IOper := [⟨(some 9), .fa 8 (.t 1), none⟩,
  ⟨(some 10), .ld none (.t 9), none⟩,
  ⟨(some 11), .len false (.t 10), none⟩,
  ⟨(some 12), .bin .gtr (.t 11) (.k (.c (.int .i64 32))), none⟩]
abbrev o_rotaref02_parts_2 : List IOper := [⟨(some 2), .mv (.k (.c (.bool false))), none⟩]
abbrev o_rotaref02_parts_3 : List IOper := [⟨(some 3), .mv (.k (.c (.int .i64 0))), none⟩]
abbrev o_rotaref02_parts_4 : List IOper := [⟨(some 13), .mv (.t 3), none⟩,
  ⟨(some 14), .fa 8 (.t 1), none⟩,
  ⟨(some 15), .ld none (.t 14), none⟩,
  ⟨(some 16), .len false (.t 15), none⟩,
  ⟨(some 17), .bin .lss (.t 13) (.t 16), none⟩]
abbrev o_rotaref02_parts_5 : List IOper := [⟨(some 20), .fa 8 (.t 1), none⟩,
  ⟨(some 21), .ld none (.t 20), none⟩,
  ⟨(some 22), .mv (.t 3), none⟩,
  ⟨(some 23), .iaS 3 (.t 21) (.t 22), none⟩,
  ⟨(some 24), .ld (some 3) (.t 23), none⟩,
  ⟨(some 4), .new 109 (.agg [(.int .i64 0), (.int .i64 0), (.int .i64 0)]), none⟩,
  ⟨none, .st 3 (.t 4) (.t 24), none⟩]
abbrev o_rotaref02_parts_6 : List IOper := [⟨(some 25), .fa 0 (.t 4), none⟩,
  ⟨(some 26), .ld none (.t 25), none⟩,
  ⟨(some 27), .bin .lss (.t 26) (.k (.c (.int .i64 0))), none⟩,
  ⟨(some 28), .mv (.t 27), none⟩,
  ⟨(some 29), .fa 0 (.t 4), some (28, false)⟩,
  ⟨(some 30), .ld none (.t 29), some (28, false)⟩,
  ⟨(some 31), .fa 0 (.t 1), some (28, false)⟩,
  ⟨(some 32), .ld none (.t 31), some (28, false)⟩,
  ⟨(some 33), .bin .geq (.t 30) (.t 32), some (28, false)⟩,
  ⟨(some 34), .pick (.t 28) (.k (.c (.bool true))) (.t 33), none⟩,
  ⟨(some 35), .mv (.t 34), none⟩,
  ⟨(some 36), .fa 1 (.t 4), some (35, false)⟩,
  ⟨(some 37), .ld none (.t 36), some (35, false)⟩,
  ⟨(some 38), .bin .lss (.t 37) (.k (.c (.int .i64 0))), some (35, false)⟩,
  ⟨(some 39), .pick (.t 35) (.k (.c (.bool true))) (.t 38), none⟩,
  ⟨(some 40), .mv (.t 39), none⟩,
  ⟨(some 41), .fa 1 (.t 4), some (40, false)⟩,
  ⟨(some 42), .ld none (.t 41), some (40, false)⟩,
  ⟨(some 43), .fa 2 (.t 4), some (40, false)⟩,
  ⟨(some 44), .ld none (.t 43), some (40, false)⟩,
  ⟨(some 45), .bin .gtr (.t 42) (.t 44), some (40, false)⟩,
  ⟨(some 46), .pick (.t 40) (.k (.c (.bool true))) (.t 45), none⟩,
  ⟨(some 47), .mv (.t 46), none⟩,
  ⟨(some 48), .fa 2 (.t 4), some (47, false)⟩,
  ⟨(some 49), .ld none (.t 48), some (47, false)⟩,
  ⟨(some 50), .bin .gtr (.t 49) (.k (.c (.int .i64 256))), some (47, false)⟩,
  ⟨(some 51), .pick (.t 47) (.k (.c (.bool true))) (.t 50), none⟩]
abbrev o_rotaref02_parts_7 : List IOper := [⟨(some 2), .mv (.k (.c (.bool false))), none⟩]
abbrev o_rotaref02_parts_8 : List IOper := [⟨(some 18), .mv (.t 3), none⟩,
  ⟨(some 19), .bin .add (.t 18) (.k (.c (.int .i64 1))), none⟩,
  ⟨(some 3), .mv (.t 19), none⟩]
def b_rotaref02_parts_9 : IC := (.seq (.seq (.ops o_rotaref02_parts_4) (.cond (.t 17) .skip (.exit 0))) (.seq (.block 1 (.seq (.ops o_rotaref02_parts_5) (.seq (.ops o_rotaref02_parts_6) (.cond (.t 51) (.seq (.ops o_rotaref02_parts_7) .ret) .skip)))) (.ops o_rotaref02_parts_8)))
abbrev o_rotaref02_parts_10 : List IOper := [⟨(some 5), .mv (.k (.c (.int .i64 0))), none⟩]
abbrev o_rotaref02_parts_11 : List IOper := [⟨(some 52), .mv (.t 5), none⟩,
  ⟨(some 53), .fa 8 (.t 1), none⟩,
  ⟨(some 54), .ld none (.t 53), none⟩,
  ⟨(some 55), .len false (.t 54), none⟩,
  ⟨(some 56), .bin .lss (.t 52) (.t 55), none⟩]
abbrev o_rotaref02_parts_12 : List IOper := [⟨(some 6), .mv (.k (.c (.int .i64 0))), none⟩]
abbrev o_rotaref02_parts_13 : List IOper := [⟨(some 59), .mv (.t 6), none⟩,
  ⟨(some 60), .mv (.t 5), none⟩,
  ⟨(some 61), .bin .lss (.t 59) (.t 60), none⟩]
abbrev o_rotaref02_parts_14 : List IOper := [⟨(some 64), .fa 8 (.t 1), none⟩,
  ⟨(some 65), .ld none (.t 64), none⟩,
  ⟨(some 66), .mv (.t 5), none⟩,
  ⟨(some 67), .iaS 3 (.t 65) (.t 66), none⟩,
  ⟨(some 68), .ld (some 3) (.t 67), none⟩,
  ⟨(some 7), .new 109 (.agg [(.int .i64 0), (.int .i64 0), (.int .i64 0)]), none⟩,
  ⟨none, .st 3 (.t 7) (.t 68), none⟩]
abbrev o_rotaref02_parts_15 : List IOper := [⟨(some 69), .fa 8 (.t 1), none⟩,
  ⟨(some 70), .ld none (.t 69), none⟩,
  ⟨(some 71), .mv (.t 6), none⟩,
  ⟨(some 72), .iaS 3 (.t 70) (.t 71), none⟩,
  ⟨(some 73), .ld (some 3) (.t 72), none⟩,
  ⟨(some 8), .new 109 (.agg [(.int .i64 0), (.int .i64 0), (.int .i64 0)]), none⟩,
  ⟨none, .st 3 (.t 8) (.t 73), none⟩]
abbrev o_rotaref02_parts_16 : List IOper := [⟨(some 74), .fa 0 (.t 7), none⟩,
  ⟨(some 75), .ld none (.t 74), none⟩,
  ⟨(some 76), .fa 0 (.t 8), none⟩,
  ⟨(some 77), .ld none (.t 76), none⟩,
  ⟨(some 78), .bin .eql (.t 75) (.t 77), none⟩,
  ⟨(some 79), .mv (.t 78), none⟩,
  ⟨(some 80), .fa 1 (.t 7), some (79, true)⟩,
  ⟨(some 81), .ld none (.t 80), some (79, true)⟩,
  ⟨(some 82), .fa 2 (.t 7), some (79, true)⟩,
  ⟨(some 83), .ld none (.t 82), some (79, true)⟩,
  ⟨(some 84), .fa 1 (.t 8), some (79, true)⟩,
  ⟨(some 85), .ld none (.t 84), some (79, true)⟩,
  ⟨(some 86), .fa 2 (.t 8), some (79, true)⟩,
  ⟨(some 87), .ld none (.t 86), some (79, true)⟩,
  ⟨(some 88), .call (.k (.c (.fn fn_rotaref02_meet [] []))) [(.t 81), (.t 83), (.t 85), (.t 87)], some (79, true)⟩,
  ⟨(some 89), .pick (.t 79) (.t 88) (.k (.c (.bool false))), none⟩]
abbrev o_rotaref02_parts_17 : List IOper := [⟨(some 2), .mv (.k (.c (.bool false))), none⟩]
abbrev o_rotaref02_parts_18 : List IOper := [⟨(some 62), .mv (.t 6), none⟩,
  ⟨(some 63), .bin .add (.t 62) (.k (.c (.int .i64 1))), none⟩,
  ⟨(some 6), .mv (.t 63), none⟩]
def b_rotaref02_parts_19 : IC := (.seq (.seq (.ops o_rotaref02_parts_13) (.cond (.t 61) .skip (.exit 4))) (.seq (.block 5 (.seq (.ops o_rotaref02_parts_14) (.seq (.ops o_rotaref02_parts_15) (.seq (.ops o_rotaref02_parts_16) (.cond (.t 89) (.seq (.ops o_rotaref02_parts_17) .ret) .skip))))) (.ops o_rotaref02_parts_18)))
abbrev o_rotaref02_parts_20 : List IOper := [⟨(some 57), .mv (.t 5), none⟩,
  ⟨(some 58), .bin .add (.t 57) (.k (.c (.int .i64 1))), none⟩,
  ⟨(some 5), .mv (.t 58), none⟩]
def b_rotaref02_parts_21 : IC := (.seq (.seq (.ops o_rotaref02_parts_11) (.cond (.t 56) .skip (.exit 2))) (.seq (.block 3 (.seq (.ops o_rotaref02_parts_12) (.block 4 (.loop b_rotaref02_parts_19)))) (.ops o_rotaref02_parts_20)))
abbrev o_rotaref02_parts_22 : List IOper := [⟨(some 2), .mv (.k (.c (.bool true))), none⟩]
def c_rotaref02_parts : IC := (.seq (.ops o_rotaref02_parts_0) (.seq (.seq (.ops o_rotaref02_parts_1) (.cond (.t 12) (.seq (.ops o_rotaref02_parts_2) .ret) .skip)) (.seq (.seq (.ops o_rotaref02_parts_3) (.block 0 (.loop b_rotaref02_parts_9))) (.seq (.seq (.ops o_rotaref02_parts_10) (.block 2 (.loop b_rotaref02_parts_21))) (.seq (.ops o_rotaref02_parts_22) .ret)))))
def i_rotaref02_parts : IFn := ⟨90, c_rotaref02_parts, [(2, none)]⟩

-- F 54 rota/rotaref02.windows: bads 0, calls []
abbrev o_rotaref02_windows_0 : List IOper := [⟨(some 1), .box 28 (.t 0), none⟩,
  ⟨(some 2), .mv (.k (.c (.bool false))), none⟩]
abbrev o_rotaref02_windows_1 : List IOper := [⟨(some 6), .fa 9 (.t 1), none⟩,
  ⟨(some 7), .ld none (.t 6), none⟩,
  ⟨(some 8), .len false (.t 7), none⟩,
  ⟨(some 9), .fa 0 (.t 1), none⟩,
  ⟨(some 10), .ld none (.t 9), none⟩,
  ⟨(some 11), .bin .neq (.t 8) (.t 10), none⟩]
abbrev o_rotaref02_windows_2 : List IOper := [⟨(some 2), .mv (.k (.c (.bool false))), none⟩]
abbrev o_rotaref02_windows_3 : List IOper := [⟨(some 3), .mv (.k (.c (.int .i64 0))), none⟩]
abbrev o_rotaref02_windows_4 : List IOper := [⟨(some 12), .mv (.t 3), none⟩,
  ⟨(some 13), .fa 0 (.t 1), none⟩,
  ⟨(some 14), .ld none (.t 13), none⟩,
  ⟨(some 15), .bin .lss (.t 12) (.t 14), none⟩]
abbrev o_rotaref02_windows_5 : List IOper := [⟨(some 18), .fa 9 (.t 1), none⟩,
  ⟨(some 19), .ld none (.t 18), none⟩,
  ⟨(some 20), .mv (.t 3), none⟩,
  ⟨(some 21), .iaS 1 (.t 19) (.t 20), none⟩,
  ⟨(some 22), .ld none (.t 21), none⟩,
  ⟨(some 23), .len false (.t 22), none⟩,
  ⟨(some 24), .fa 0 (.t 1), none⟩,
  ⟨(some 25), .ld none (.t 24), none⟩,
  ⟨(some 26), .bin .neq (.t 23) (.t 25), none⟩]
abbrev o_rotaref02_windows_6 : List IOper := [⟨(some 2), .mv (.k (.c (.bool false))), none⟩]
abbrev o_rotaref02_windows_7 : List IOper := [⟨(some 4), .mv (.k (.c (.int .i64 0))), none⟩]
abbrev o_rotaref02_windows_8 : List IOper := [⟨(some 27), .mv (.t 4), none⟩,
  ⟨(some 28), .fa 0 (.t 1), none⟩,
  ⟨(some 29), .ld none (.t 28), none⟩,
  ⟨(some 30), .bin .lss (.t 27) (.t 29), none⟩]
abbrev o_rotaref02_windows_9 : List IOper := [⟨(some 33), .fa 9 (.t 1), none⟩,
  ⟨(some 34), .ld none (.t 33), none⟩,
  ⟨(some 35), .mv (.t 3), none⟩,
  ⟨(some 36), .iaS 1 (.t 34) (.t 35), none⟩,
  ⟨(some 37), .ld none (.t 36), none⟩,
  ⟨(some 38), .mv (.t 4), none⟩,
  ⟨(some 39), .iaS 1 (.t 37) (.t 38), none⟩,
  ⟨(some 40), .ld none (.t 39), none⟩,
  ⟨(some 5), .mv (.t 40), none⟩]
abbrev o_rotaref02_windows_10 : List IOper := [⟨(some 41), .mv (.t 5), none⟩,
  ⟨(some 42), .bin .neq (.t 41) (.k (.c (.int .i64 (-1)))), none⟩,
  ⟨(some 43), .mv (.t 42), none⟩,
  ⟨(some 44), .mv (.t 5), some (43, true)⟩,
  ⟨(some 45), .bin .lss (.t 44) (.k (.c (.int .i64 0))), some (43, true)⟩,
  ⟨(some 46), .mv (.t 45), some (43, true)⟩,
  ⟨(some 47), .mv (.t 5), some (46, false)⟩,
  ⟨(some 48), .fa 8 (.t 1), some (46, false)⟩,
  ⟨(some 49), .ld none (.t 48), some (46, false)⟩,
  ⟨(some 50), .len false (.t 49), some (46, false)⟩,
  ⟨(some 51), .bin .geq (.t 47) (.t 50), some (46, false)⟩,
  ⟨(some 52), .pick (.t 46) (.k (.c (.bool true))) (.t 51), some (43, true)⟩,
  ⟨(some 53), .mv (.t 52), some (43, true)⟩,
  ⟨(some 54), .fa 8 (.t 1), some (53, false)⟩,
  ⟨(some 55), .ld none (.t 54), some (53, false)⟩,
  ⟨(some 56), .mv (.t 5), some (53, false)⟩,
  ⟨(some 57), .iaS 3 (.t 55) (.t 56), some (53, false)⟩,
  ⟨(some 58), .fa 0 (.t 57), some (53, false)⟩,
  ⟨(some 59), .ld none (.t 58), some (53, false)⟩,
  ⟨(some 60), .mv (.t 3), some (53, false)⟩,
  ⟨(some 61), .bin .neq (.t 59) (.t 60), some (53, false)⟩,
  ⟨(some 62), .pick (.t 53) (.k (.c (.bool true))) (.t 61), some (43, true)⟩,
  ⟨(some 63), .pick (.t 43) (.t 62) (.k (.c (.bool false))), none⟩]
abbrev o_rotaref02_windows_11 : List IOper := [⟨(some 2), .mv (.k (.c (.bool false))), none⟩]
abbrev o_rotaref02_windows_12 : List IOper := [⟨(some 31), .mv (.t 4), none⟩,
  ⟨(some 32), .bin .add (.t 31) (.k (.c (.int .i64 1))), none⟩,
  ⟨(some 4), .mv (.t 32), none⟩]
def b_rotaref02_windows_13 : IC := (.seq (.seq (.ops o_rotaref02_windows_8) (.cond (.t 30) .skip (.exit 2))) (.seq (.block 3 (.seq (.ops o_rotaref02_windows_9) (.seq (.ops o_rotaref02_windows_10) (.cond (.t 63) (.seq (.ops o_rotaref02_windows_11) .ret) .skip)))) (.ops o_rotaref02_windows_12)))
abbrev o_rotaref02_windows_14 : List IOper := [⟨(some 16), .mv (.t 3), none⟩,
  ⟨(some 17), .bin .add (.t 16) (.k (.c (.int .i64 1))), none⟩,
  ⟨(some 3), .mv (.t 17), none⟩]
def b_rotaref02_windows_15 : IC := (.seq (.seq (.ops o_rotaref02_windows_4) (.cond (.t 15) .skip (.exit 0))) (.seq (.block 1 (.seq (.seq (.ops o_rotaref02_windows_5) (.cond (.t 26) (.seq (.ops o_rotaref02_windows_6) .ret) .skip)) (.seq (.ops o_rotaref02_windows_7) (.block 2 (.loop b_rotaref02_windows_13))))) (.ops o_rotaref02_windows_14)))
abbrev o_rotaref02_windows_16 : List IOper := [⟨(some 2), .mv (.k (.c (.bool true))), none⟩]
def c_rotaref02_windows : IC := (.seq (.ops o_rotaref02_windows_0) (.seq (.seq (.ops o_rotaref02_windows_1) (.cond (.t 11) (.seq (.ops o_rotaref02_windows_2) .ret) .skip)) (.seq (.seq (.ops o_rotaref02_windows_3) (.block 0 (.loop b_rotaref02_windows_15))) (.seq (.ops o_rotaref02_windows_16) .ret))))
def i_rotaref02_windows : IFn := ⟨64, c_rotaref02_windows, [(2, none)]⟩

-- F 55 rota/rotaref02.ports: bads 0, calls [78]
abbrev o_rotaref02_ports_0 : List IOper := [⟨(some 1), .box 28 (.t 0), none⟩,
  ⟨(some 2), .mv (.k (.c (.bool false))), none⟩]
abbrev o_rotaref02_ports_1 : List IOper := [⟨(some 3), .mv (.k (.c (.int .i64 0))), none⟩]
abbrev o_rotaref02_ports_2 : List IOper := [⟨(some 4), .mv (.t 3), none⟩,
  ⟨(some 5), .fa 10 (.t 1), none⟩,
  ⟨(some 6), .ld none (.t 5), none⟩,
  ⟨(some 7), .len false (.t 6), none⟩,
  ⟨(some 8), .bin .lss (.t 4) (.t 7), none⟩]
abbrev o_rotaref02_ports_3 : List IOper := [⟨(some 11), .fa 10 (.t 1), none⟩,
  ⟨(some 12), .ld none (.t 11), none⟩,
  ⟨(some 13), .mv (.t 3), none⟩,
  ⟨(some 14), .iaS 6 (.t 12) (.t 13), none⟩,
  ⟨(some 15), .ld (some 6) (.t 14), none⟩,
  ⟨(some 16), .call (.k (.c (.fn fn_rotaref02_Alone [] []))) [(.t 15)], none⟩,
  ⟨(some 17), .un .not (.t 16), none⟩,
  ⟨(some 18), .mv (.t 17), none⟩,
  ⟨(some 19), .fa 10 (.t 1), some (18, false)⟩,
  ⟨(some 20), .ld none (.t 19), some (18, false)⟩,
  ⟨(some 21), .mv (.t 3), some (18, false)⟩,
  ⟨(some 22), .iaS 6 (.t 20) (.t 21), some (18, false)⟩,
  ⟨(some 23), .fa 0 (.t 22), some (18, false)⟩,
  ⟨(some 24), .ld none (.t 23), some (18, false)⟩,
  ⟨(some 25), .bin .lss (.t 24) (.k (.c (.int .i64 0))), some (18, false)⟩,
  ⟨(some 26), .pick (.t 18) (.k (.c (.bool true))) (.t 25), none⟩,
  ⟨(some 27), .mv (.t 26), none⟩,
  ⟨(some 28), .fa 10 (.t 1), some (27, false)⟩,
  ⟨(some 29), .ld none (.t 28), some (27, false)⟩,
  ⟨(some 30), .mv (.t 3), some (27, false)⟩,
  ⟨(some 31), .iaS 6 (.t 29) (.t 30), some (27, false)⟩,
  ⟨(some 32), .fa 0 (.t 31), some (27, false)⟩,
  ⟨(some 33), .ld none (.t 32), some (27, false)⟩,
  ⟨(some 34), .fa 8 (.t 1), some (27, false)⟩,
  ⟨(some 35), .ld none (.t 34), some (27, false)⟩,
  ⟨(some 36), .len false (.t 35), some (27, false)⟩,
  ⟨(some 37), .bin .geq (.t 33) (.t 36), some (27, false)⟩,
  ⟨(some 38), .pick (.t 27) (.k (.c (.bool true))) (.t 37), none⟩]
abbrev o_rotaref02_ports_4 : List IOper := [⟨(some 2), .mv (.k (.c (.bool false))), none⟩]
abbrev o_rotaref02_ports_5 : List IOper := [⟨(some 9), .mv (.t 3), none⟩,
  ⟨(some 10), .bin .add (.t 9) (.k (.c (.int .i64 1))), none⟩,
  ⟨(some 3), .mv (.t 10), none⟩]
def b_rotaref02_ports_6 : IC := (.seq (.seq (.ops o_rotaref02_ports_2) (.cond (.t 8) .skip (.exit 0))) (.seq (.block 1 (.seq (.ops o_rotaref02_ports_3) (.cond (.t 38) (.seq (.ops o_rotaref02_ports_4) .ret) .skip))) (.ops o_rotaref02_ports_5)))
abbrev o_rotaref02_ports_7 : List IOper := [⟨(some 39), .fa 10 (.t 1), none⟩,
  ⟨(some 40), .ld none (.t 39), none⟩,
  ⟨(some 41), .len false (.t 40), none⟩,
  ⟨(some 42), .bin .leq (.t 41) (.k (.c (.int .i64 64))), none⟩,
  ⟨(some 2), .mv (.t 42), none⟩]
def c_rotaref02_ports : IC := (.seq (.ops o_rotaref02_ports_0) (.seq (.seq (.ops o_rotaref02_ports_1) (.block 0 (.loop b_rotaref02_ports_6))) (.seq (.ops o_rotaref02_ports_7) .ret)))
def i_rotaref02_ports : IFn := ⟨43, c_rotaref02_ports, [(2, none)]⟩

-- F 56 rota/rotaref02.links: bads 0, calls [79, 79, 75, 77]
abbrev o_rotaref02_links_0 : List IOper := [⟨(some 1), .box 28 (.t 0), none⟩,
  ⟨(some 2), .mv (.k (.c (.bool false))), none⟩]
abbrev o_rotaref02_links_1 : List IOper := [⟨(some 15), .fa 11 (.t 1), none⟩,
  ⟨(some 16), .ld none (.t 15), none⟩,
  ⟨(some 17), .len false (.t 16), none⟩,
  ⟨(some 18), .bin .gtr (.t 17) (.k (.c (.int .i64 64))), none⟩]
abbrev o_rotaref02_links_2 : List IOper := [⟨(some 2), .mv (.k (.c (.bool false))), none⟩]
abbrev o_rotaref02_links_3 : List IOper := [⟨(some 3), .mv (.k (.c (.sl none 0 0 false))), none⟩]
abbrev o_rotaref02_links_4 : List IOper := [⟨(some 4), .mv (.k (.c (.int .i64 0))), none⟩]
abbrev o_rotaref02_links_5 : List IOper := [⟨(some 19), .mv (.t 4), none⟩,
  ⟨(some 20), .fa 11 (.t 1), none⟩,
  ⟨(some 21), .ld none (.t 20), none⟩,
  ⟨(some 22), .len false (.t 21), none⟩,
  ⟨(some 23), .bin .lss (.t 19) (.t 22), none⟩]
abbrev o_rotaref02_links_6 : List IOper := [⟨(some 26), .fa 11 (.t 1), none⟩,
  ⟨(some 27), .ld none (.t 26), none⟩,
  ⟨(some 28), .mv (.t 4), none⟩,
  ⟨(some 29), .iaS 3 (.t 27) (.t 28), none⟩,
  ⟨(some 30), .ld (some 3) (.t 29), none⟩,
  ⟨(some 5), .new 115 (.agg [(.int .i64 0), (.sl none 0 0 false), (.int .i64 0)]), none⟩,
  ⟨none, .st 3 (.t 5) (.t 30), none⟩]
abbrev o_rotaref02_links_7 : List IOper := [⟨(some 31), .ld (some 12) (.t 1), none⟩,
  ⟨(some 32), .fa 0 (.t 5), none⟩,
  ⟨(some 33), .ld none (.t 32), none⟩,
  ⟨(some 34), .call (.k (.c (.fn fn_rotaref02_is [] []))) [(.t 31), (.t 33)], none⟩,
  ⟨(some 35), .un .not (.t 34), none⟩,
  ⟨(some 36), .mv (.t 35), none⟩,
  ⟨(some 37), .fa 10 (.t 1), some (36, false)⟩,
  ⟨(some 38), .ld none (.t 37), some (36, false)⟩,
  ⟨(some 39), .fa 0 (.t 5), some (36, false)⟩,
  ⟨(some 40), .ld none (.t 39), some (36, false)⟩,
  ⟨(some 41), .iaS 6 (.t 38) (.t 40), some (36, false)⟩,
  ⟨(some 42), .fa 2 (.t 41), some (36, false)⟩,
  ⟨(some 43), .ld none (.t 42), some (36, false)⟩,
  ⟨(some 44), .bin .neq (.t 43) (.k (.c (.int .i64 1))), some (36, false)⟩,
  ⟨(some 45), .pick (.t 36) (.k (.c (.bool true))) (.t 44), none⟩,
  ⟨(some 46), .mv (.t 45), none⟩,
  ⟨(some 47), .fa 1 (.t 5), some (46, false)⟩,
  ⟨(some 48), .ld none (.t 47), some (46, false)⟩,
  ⟨(some 49), .len false (.t 48), some (46, false)⟩,
  ⟨(some 50), .bin .eql (.t 49) (.k (.c (.int .i64 0))), some (46, false)⟩,
  ⟨(some 51), .pick (.t 46) (.k (.c (.bool true))) (.t 50), none⟩,
  ⟨(some 52), .mv (.t 51), none⟩,
  ⟨(some 53), .fa 2 (.t 5), some (52, false)⟩,
  ⟨(some 54), .ld none (.t 53), some (52, false)⟩,
  ⟨(some 55), .bin .lss (.t 54) (.k (.c (.int .i64 0))), some (52, false)⟩,
  ⟨(some 56), .pick (.t 52) (.k (.c (.bool true))) (.t 55), none⟩,
  ⟨(some 57), .mv (.t 56), none⟩,
  ⟨(some 58), .fa 2 (.t 5), some (57, false)⟩,
  ⟨(some 59), .ld none (.t 58), some (57, false)⟩,
  ⟨(some 60), .bin .gtr (.t 59) (.k (.c (.int .i64 64))), some (57, false)⟩,
  ⟨(some 61), .pick (.t 57) (.k (.c (.bool true))) (.t 60), none⟩,
  ⟨(some 62), .mv (.t 61), none⟩,
  ⟨(some 63), .fa 2 (.t 5), some (62, false)⟩,
  ⟨(some 64), .ld none (.t 63), some (62, false)⟩,
  ⟨(some 65), .bin .add (.t 64) (.k (.c (.int .i64 1))), some (62, false)⟩,
  ⟨(some 66), .fa 10 (.t 1), some (62, false)⟩,
  ⟨(some 67), .ld none (.t 66), some (62, false)⟩,
  ⟨(some 68), .fa 0 (.t 5), some (62, false)⟩,
  ⟨(some 69), .ld none (.t 68), some (62, false)⟩,
  ⟨(some 70), .iaS 6 (.t 67) (.t 69), some (62, false)⟩,
  ⟨(some 71), .fa 3 (.t 70), some (62, false)⟩,
  ⟨(some 72), .ld none (.t 71), some (62, false)⟩,
  ⟨(some 73), .bin .add (.t 65) (.t 72), some (62, false)⟩,
  ⟨(some 74), .bin .gtr (.t 73) (.k (.c (.int .i64 64))), some (62, false)⟩,
  ⟨(some 75), .pick (.t 62) (.k (.c (.bool true))) (.t 74), none⟩]
abbrev o_rotaref02_links_8 : List IOper := [⟨(some 2), .mv (.k (.c (.bool false))), none⟩]
abbrev o_rotaref02_links_9 : List IOper := [⟨(some 76), .mv (.t 3), none⟩,
  ⟨(some 77), .fa 0 (.t 5), none⟩,
  ⟨(some 78), .ld none (.t 77), none⟩,
  ⟨(some 79), .bsl 3 1 [(.int .i64 0)] [(0, 1, (.t 78))], none⟩,
  ⟨(some 80), .app 3 1 8 (.t 76) (.t 79), none⟩,
  ⟨(some 3), .mv (.t 80), none⟩]
abbrev o_rotaref02_links_10 : List IOper := [⟨(some 6), .mv (.k (.c (.int .i64 0))), none⟩]
abbrev o_rotaref02_links_11 : List IOper := [⟨(some 81), .mv (.t 6), none⟩,
  ⟨(some 82), .fa 1 (.t 5), none⟩,
  ⟨(some 83), .ld none (.t 82), none⟩,
  ⟨(some 84), .len false (.t 83), none⟩,
  ⟨(some 85), .bin .lss (.t 81) (.t 84), none⟩]
abbrev o_rotaref02_links_12 : List IOper := [⟨(some 88), .fa 1 (.t 5), none⟩,
  ⟨(some 89), .ld none (.t 88), none⟩,
  ⟨(some 90), .mv (.t 6), none⟩,
  ⟨(some 91), .iaS 1 (.t 89) (.t 90), none⟩,
  ⟨(some 92), .ld none (.t 91), none⟩,
  ⟨(some 7), .mv (.t 92), none⟩]
abbrev o_rotaref02_links_13 : List IOper := [⟨(some 93), .ld (some 12) (.t 1), none⟩,
  ⟨(some 94), .mv (.t 7), none⟩,
  ⟨(some 95), .call (.k (.c (.fn fn_rotaref02_is [] []))) [(.t 93), (.t 94)], none⟩,
  ⟨(some 96), .un .not (.t 95), none⟩,
  ⟨(some 97), .mv (.t 96), none⟩,
  ⟨(some 98), .fa 10 (.t 1), some (97, false)⟩,
  ⟨(some 99), .ld none (.t 98), some (97, false)⟩,
  ⟨(some 100), .mv (.t 7), some (97, false)⟩,
  ⟨(some 101), .iaS 6 (.t 99) (.t 100), some (97, false)⟩,
  ⟨(some 102), .fa 2 (.t 101), some (97, false)⟩,
  ⟨(some 103), .ld none (.t 102), some (97, false)⟩,
  ⟨(some 104), .bin .neq (.t 103) (.k (.c (.int .i64 2))), some (97, false)⟩,
  ⟨(some 105), .pick (.t 97) (.k (.c (.bool true))) (.t 104), none⟩,
  ⟨(some 106), .mv (.t 105), none⟩,
  ⟨(some 107), .fa 10 (.t 1), some (106, false)⟩,
  ⟨(some 108), .ld none (.t 107), some (106, false)⟩,
  ⟨(some 109), .mv (.t 7), some (106, false)⟩,
  ⟨(some 110), .iaS 6 (.t 108) (.t 109), some (106, false)⟩,
  ⟨(some 111), .fa 1 (.t 110), some (106, false)⟩,
  ⟨(some 112), .ld none (.t 111), some (106, false)⟩,
  ⟨(some 113), .fa 10 (.t 1), some (106, false)⟩,
  ⟨(some 114), .ld none (.t 113), some (106, false)⟩,
  ⟨(some 115), .fa 0 (.t 5), some (106, false)⟩,
  ⟨(some 116), .ld none (.t 115), some (106, false)⟩,
  ⟨(some 117), .iaS 6 (.t 114) (.t 116), some (106, false)⟩,
  ⟨(some 118), .fa 1 (.t 117), some (106, false)⟩,
  ⟨(some 119), .ld none (.t 118), some (106, false)⟩,
  ⟨(some 120), .bin .neq (.t 112) (.t 119), some (106, false)⟩,
  ⟨(some 121), .pick (.t 106) (.k (.c (.bool true))) (.t 120), none⟩,
  ⟨(some 122), .mv (.t 121), none⟩,
  ⟨(some 123), .fa 10 (.t 1), some (122, false)⟩,
  ⟨(some 124), .ld none (.t 123), some (122, false)⟩,
  ⟨(some 125), .mv (.t 7), some (122, false)⟩,
  ⟨(some 126), .iaS 6 (.t 124) (.t 125), some (122, false)⟩,
  ⟨(some 127), .fa 3 (.t 126), some (122, false)⟩,
  ⟨(some 128), .ld none (.t 127), some (122, false)⟩,
  ⟨(some 129), .fa 10 (.t 1), some (122, false)⟩,
  ⟨(some 130), .ld none (.t 129), some (122, false)⟩,
  ⟨(some 131), .fa 0 (.t 5), some (122, false)⟩,
  ⟨(some 132), .ld none (.t 131), some (122, false)⟩,
  ⟨(some 133), .iaS 6 (.t 130) (.t 132), some (122, false)⟩,
  ⟨(some 134), .fa 3 (.t 133), some (122, false)⟩,
  ⟨(some 135), .ld none (.t 134), some (122, false)⟩,
  ⟨(some 136), .bin .neq (.t 128) (.t 135), some (122, false)⟩,
  ⟨(some 137), .pick (.t 122) (.k (.c (.bool true))) (.t 136), none⟩]
abbrev o_rotaref02_links_14 : List IOper := [⟨(some 2), .mv (.k (.c (.bool false))), none⟩]
abbrev o_rotaref02_links_15 : List IOper := [⟨(some 138), .mv (.t 3), none⟩,
  ⟨(some 139), .mv (.t 7), none⟩,
  ⟨(some 140), .bsl 3 1 [(.int .i64 0)] [(0, 1, (.t 139))], none⟩,
  ⟨(some 141), .app 3 1 8 (.t 138) (.t 140), none⟩,
  ⟨(some 3), .mv (.t 141), none⟩]
abbrev o_rotaref02_links_16 : List IOper := [⟨(some 86), .mv (.t 6), none⟩,
  ⟨(some 87), .bin .add (.t 86) (.k (.c (.int .i64 1))), none⟩,
  ⟨(some 6), .mv (.t 87), none⟩]
def b_rotaref02_links_17 : IC := (.seq (.seq (.ops o_rotaref02_links_11) (.cond (.t 85) .skip (.exit 2))) (.seq (.block 3 (.seq (.ops o_rotaref02_links_12) (.seq (.seq (.ops o_rotaref02_links_13) (.cond (.t 137) (.seq (.ops o_rotaref02_links_14) .ret) .skip)) (.ops o_rotaref02_links_15)))) (.ops o_rotaref02_links_16)))
abbrev o_rotaref02_links_18 : List IOper := [⟨(some 142), .mv (.t 3), none⟩,
  ⟨(some 143), .len false (.t 142), none⟩,
  ⟨(some 144), .fa 10 (.t 1), none⟩,
  ⟨(some 145), .ld none (.t 144), none⟩,
  ⟨(some 146), .len false (.t 145), none⟩,
  ⟨(some 147), .bin .gtr (.t 143) (.t 146), none⟩]
abbrev o_rotaref02_links_19 : List IOper := [⟨(some 2), .mv (.k (.c (.bool false))), none⟩]
abbrev o_rotaref02_links_20 : List IOper := [⟨(some 24), .mv (.t 4), none⟩,
  ⟨(some 25), .bin .add (.t 24) (.k (.c (.int .i64 1))), none⟩,
  ⟨(some 4), .mv (.t 25), none⟩]
def b_rotaref02_links_21 : IC := (.seq (.seq (.ops o_rotaref02_links_5) (.cond (.t 23) .skip (.exit 0))) (.seq (.block 1 (.seq (.ops o_rotaref02_links_6) (.seq (.seq (.ops o_rotaref02_links_7) (.cond (.t 75) (.seq (.ops o_rotaref02_links_8) .ret) .skip)) (.seq (.ops o_rotaref02_links_9) (.seq (.seq (.ops o_rotaref02_links_10) (.block 2 (.loop b_rotaref02_links_17))) (.seq (.ops o_rotaref02_links_18) (.cond (.t 147) (.seq (.ops o_rotaref02_links_19) .ret) .skip))))))) (.ops o_rotaref02_links_20)))
abbrev o_rotaref02_links_22 : List IOper := [⟨(some 8), .mv (.k (.c (.int .i64 0))), none⟩]
abbrev o_rotaref02_links_23 : List IOper := [⟨(some 148), .mv (.t 8), none⟩,
  ⟨(some 149), .fa 10 (.t 1), none⟩,
  ⟨(some 150), .ld none (.t 149), none⟩,
  ⟨(some 151), .len false (.t 150), none⟩,
  ⟨(some 152), .bin .lss (.t 148) (.t 151), none⟩]
abbrev o_rotaref02_links_24 : List IOper := [⟨(some 155), .mv (.t 3), none⟩,
  ⟨(some 156), .mv (.t 8), none⟩,
  ⟨(some 157), .call (.k (.c (.fn fn_rotaref02_count [] []))) [(.t 155), (.t 156)], none⟩,
  ⟨(some 158), .bin .gtr (.t 157) (.k (.c (.int .i64 1))), none⟩]
abbrev o_rotaref02_links_25 : List IOper := [⟨(some 2), .mv (.k (.c (.bool false))), none⟩]
abbrev o_rotaref02_links_26 : List IOper := [⟨(some 153), .mv (.t 8), none⟩,
  ⟨(some 154), .bin .add (.t 153) (.k (.c (.int .i64 1))), none⟩,
  ⟨(some 8), .mv (.t 154), none⟩]
def b_rotaref02_links_27 : IC := (.seq (.seq (.ops o_rotaref02_links_23) (.cond (.t 152) .skip (.exit 4))) (.seq (.block 5 (.seq (.ops o_rotaref02_links_24) (.cond (.t 158) (.seq (.ops o_rotaref02_links_25) .ret) .skip))) (.ops o_rotaref02_links_26)))
abbrev o_rotaref02_links_28 : List IOper := [⟨(some 9), .mv (.k (.c (.int .i64 0))), none⟩]
abbrev o_rotaref02_links_29 : List IOper := [⟨(some 159), .mv (.t 9), none⟩,
  ⟨(some 160), .fa 11 (.t 1), none⟩,
  ⟨(some 161), .ld none (.t 160), none⟩,
  ⟨(some 162), .len false (.t 161), none⟩,
  ⟨(some 163), .bin .lss (.t 159) (.t 162), none⟩]
abbrev o_rotaref02_links_30 : List IOper := [⟨(some 10), .mv (.k (.c (.int .i64 0))), none⟩]
abbrev o_rotaref02_links_31 : List IOper := [⟨(some 166), .mv (.t 10), none⟩,
  ⟨(some 167), .mv (.t 9), none⟩,
  ⟨(some 168), .bin .lss (.t 166) (.t 167), none⟩]
abbrev o_rotaref02_links_32 : List IOper := [⟨(some 171), .fa 11 (.t 1), none⟩,
  ⟨(some 172), .ld none (.t 171), none⟩,
  ⟨(some 173), .mv (.t 9), none⟩,
  ⟨(some 174), .iaS 3 (.t 172) (.t 173), none⟩,
  ⟨(some 175), .ld (some 3) (.t 174), none⟩,
  ⟨(some 11), .new 115 (.agg [(.int .i64 0), (.sl none 0 0 false), (.int .i64 0)]), none⟩,
  ⟨none, .st 3 (.t 11) (.t 175), none⟩]
abbrev o_rotaref02_links_33 : List IOper := [⟨(some 176), .fa 11 (.t 1), none⟩,
  ⟨(some 177), .ld none (.t 176), none⟩,
  ⟨(some 178), .mv (.t 10), none⟩,
  ⟨(some 179), .iaS 3 (.t 177) (.t 178), none⟩,
  ⟨(some 180), .ld (some 3) (.t 179), none⟩,
  ⟨(some 12), .new 115 (.agg [(.int .i64 0), (.sl none 0 0 false), (.int .i64 0)]), none⟩,
  ⟨none, .st 3 (.t 12) (.t 180), none⟩]
abbrev o_rotaref02_links_34 : List IOper := [⟨(some 181), .fa 10 (.t 1), none⟩,
  ⟨(some 182), .ld none (.t 181), none⟩,
  ⟨(some 183), .fa 0 (.t 11), none⟩,
  ⟨(some 184), .ld none (.t 183), none⟩,
  ⟨(some 185), .iaS 6 (.t 182) (.t 184), none⟩,
  ⟨(some 186), .ld (some 6) (.t 185), none⟩,
  ⟨(some 13), .new 113 (.agg (List.replicate 6 (.int .i64 0))), none⟩,
  ⟨none, .st 6 (.t 13) (.t 186), none⟩]
abbrev o_rotaref02_links_35 : List IOper := [⟨(some 187), .fa 10 (.t 1), none⟩,
  ⟨(some 188), .ld none (.t 187), none⟩,
  ⟨(some 189), .fa 0 (.t 12), none⟩,
  ⟨(some 190), .ld none (.t 189), none⟩,
  ⟨(some 191), .iaS 6 (.t 188) (.t 190), none⟩,
  ⟨(some 192), .ld (some 6) (.t 191), none⟩,
  ⟨(some 14), .new 113 (.agg (List.replicate 6 (.int .i64 0))), none⟩,
  ⟨none, .st 6 (.t 14) (.t 192), none⟩]
abbrev o_rotaref02_links_36 : List IOper := [⟨(some 193), .fa 8 (.t 1), none⟩,
  ⟨(some 194), .ld none (.t 193), none⟩,
  ⟨(some 195), .fa 0 (.t 13), none⟩,
  ⟨(some 196), .ld none (.t 195), none⟩,
  ⟨(some 197), .iaS 3 (.t 194) (.t 196), none⟩,
  ⟨(some 198), .fa 0 (.t 197), none⟩,
  ⟨(some 199), .ld none (.t 198), none⟩,
  ⟨(some 200), .fa 8 (.t 1), none⟩,
  ⟨(some 201), .ld none (.t 200), none⟩,
  ⟨(some 202), .fa 0 (.t 14), none⟩,
  ⟨(some 203), .ld none (.t 202), none⟩,
  ⟨(some 204), .iaS 3 (.t 201) (.t 203), none⟩,
  ⟨(some 205), .fa 0 (.t 204), none⟩,
  ⟨(some 206), .ld none (.t 205), none⟩,
  ⟨(some 207), .bin .eql (.t 199) (.t 206), none⟩,
  ⟨(some 208), .mv (.t 207), none⟩,
  ⟨(some 209), .fa 2 (.t 11), some (208, true)⟩,
  ⟨(some 210), .ld none (.t 209), some (208, true)⟩,
  ⟨(some 211), .fa 2 (.t 11), some (208, true)⟩,
  ⟨(some 212), .ld none (.t 211), some (208, true)⟩,
  ⟨(some 213), .bin .add (.t 212) (.k (.c (.int .i64 1))), some (208, true)⟩,
  ⟨(some 214), .fa 3 (.t 13), some (208, true)⟩,
  ⟨(some 215), .ld none (.t 214), some (208, true)⟩,
  ⟨(some 216), .bin .add (.t 213) (.t 215), some (208, true)⟩,
  ⟨(some 217), .fa 2 (.t 12), some (208, true)⟩,
  ⟨(some 218), .ld none (.t 217), some (208, true)⟩,
  ⟨(some 219), .fa 2 (.t 12), some (208, true)⟩,
  ⟨(some 220), .ld none (.t 219), some (208, true)⟩,
  ⟨(some 221), .bin .add (.t 220) (.k (.c (.int .i64 1))), some (208, true)⟩,
  ⟨(some 222), .fa 3 (.t 14), some (208, true)⟩,
  ⟨(some 223), .ld none (.t 222), some (208, true)⟩,
  ⟨(some 224), .bin .add (.t 221) (.t 223), some (208, true)⟩,
  ⟨(some 225), .call (.k (.c (.fn fn_rotaref02_meet [] []))) [(.t 210), (.t 216), (.t 218), (.t 224)], some (208, true)⟩,
  ⟨(some 226), .pick (.t 208) (.t 225) (.k (.c (.bool false))), none⟩]
abbrev o_rotaref02_links_37 : List IOper := [⟨(some 2), .mv (.k (.c (.bool false))), none⟩]
abbrev o_rotaref02_links_38 : List IOper := [⟨(some 169), .mv (.t 10), none⟩,
  ⟨(some 170), .bin .add (.t 169) (.k (.c (.int .i64 1))), none⟩,
  ⟨(some 10), .mv (.t 170), none⟩]
def b_rotaref02_links_39 : IC := (.seq (.seq (.ops o_rotaref02_links_31) (.cond (.t 168) .skip (.exit 8))) (.seq (.block 9 (.seq (.ops o_rotaref02_links_32) (.seq (.ops o_rotaref02_links_33) (.seq (.ops o_rotaref02_links_34) (.seq (.ops o_rotaref02_links_35) (.seq (.ops o_rotaref02_links_36) (.cond (.t 226) (.seq (.ops o_rotaref02_links_37) .ret) .skip))))))) (.ops o_rotaref02_links_38)))
abbrev o_rotaref02_links_40 : List IOper := [⟨(some 164), .mv (.t 9), none⟩,
  ⟨(some 165), .bin .add (.t 164) (.k (.c (.int .i64 1))), none⟩,
  ⟨(some 9), .mv (.t 165), none⟩]
def b_rotaref02_links_41 : IC := (.seq (.seq (.ops o_rotaref02_links_29) (.cond (.t 163) .skip (.exit 6))) (.seq (.block 7 (.seq (.ops o_rotaref02_links_30) (.block 8 (.loop b_rotaref02_links_39)))) (.ops o_rotaref02_links_40)))
abbrev o_rotaref02_links_42 : List IOper := [⟨(some 2), .mv (.k (.c (.bool true))), none⟩]
def c_rotaref02_links : IC := (.seq (.ops o_rotaref02_links_0) (.seq (.seq (.ops o_rotaref02_links_1) (.cond (.t 18) (.seq (.ops o_rotaref02_links_2) .ret) .skip)) (.seq (.ops o_rotaref02_links_3) (.seq (.seq (.ops o_rotaref02_links_4) (.block 0 (.loop b_rotaref02_links_21))) (.seq (.seq (.ops o_rotaref02_links_22) (.block 4 (.loop b_rotaref02_links_27))) (.seq (.seq (.ops o_rotaref02_links_28) (.block 6 (.loop b_rotaref02_links_41))) (.seq (.ops o_rotaref02_links_42) .ret)))))))
def i_rotaref02_links : IFn := ⟨227, c_rotaref02_links, [(2, none)]⟩

-- F 57 (*rota/rotaref09.Member).stop: bads 0, calls [80]
abbrev o_rotaref09_Member_stop_0 : List IOper := [⟨(some 2), .mv (.t 0), none⟩,
  ⟨(some 3), .nilck (.t 2), none⟩,
  ⟨(some 4), .fa 14 (.t 3), none⟩,
  ⟨none, .st 1 (.t 4) (.k (.c (.int .i64 (-1)))), none⟩]
abbrev o_rotaref09_Member_stop_1 : List IOper := [⟨(some 5), .mv (.t 0), none⟩,
  ⟨(some 6), .call (.k (.c (.fn fn_rotaref09_Member_nobody [] []))) [(.t 5)], none⟩]
abbrev o_rotaref09_Member_stop_2 : List IOper := [⟨(some 7), .mv (.t 0), none⟩,
  ⟨(some 8), .nilck (.t 7), none⟩,
  ⟨(some 9), .fa 18 (.t 8), none⟩,
  ⟨none, .st 1 (.t 9) (.k (.c (.int .i64 0))), none⟩]
abbrev o_rotaref09_Member_stop_3 : List IOper := [⟨(some 10), .mv (.t 0), none⟩,
  ⟨(some 11), .nilck (.t 10), none⟩,
  ⟨(some 12), .fa 19 (.t 11), none⟩,
  ⟨none, .st 1 (.t 12) (.k (.c (.int .i64 0))), none⟩]
def c_rotaref09_Member_stop : IC := (.seq (.ops o_rotaref09_Member_stop_0) (.seq (.ops o_rotaref09_Member_stop_1) (.seq (.ops o_rotaref09_Member_stop_2) (.ops o_rotaref09_Member_stop_3))))
def i_rotaref09_Member_stop : IFn := ⟨13, c_rotaref09_Member_stop, []⟩

-- F 58 (*rota/rotaref09.Member).anew: bads 0, calls []
abbrev o_rotaref09_Member_anew_0 : List IOper := [⟨(some 2), .mv (.t 0), none⟩,
  ⟨(some 3), .nilck (.t 2), none⟩,
  ⟨(some 4), .fa 13 (.t 3), none⟩,
  ⟨none, .st 1 (.t 4) (.k (.c (.int .i64 2))), none⟩]
abbrev o_rotaref09_Member_anew_1 : List IOper := [⟨(some 5), .mv (.t 0), none⟩,
  ⟨(some 6), .nilck (.t 5), none⟩,
  ⟨(some 7), .fa 15 (.t 6), none⟩,
  ⟨(some 8), .ld none (.t 7), none⟩,
  ⟨(some 9), .mv (.t 0), none⟩,
  ⟨(some 10), .nilck (.t 9), none⟩,
  ⟨(some 11), .fa 12 (.t 10), none⟩,
  ⟨(some 12), .ld none (.t 11), none⟩,
  ⟨(some 13), .iaS 1 (.t 8) (.t 12), none⟩,
  ⟨none, .st 1 (.t 13) (.k (.c (.bool true))), none⟩]
abbrev o_rotaref09_Member_anew_2 : List IOper := [⟨(some 14), .mv (.t 0), none⟩,
  ⟨(some 15), .nilck (.t 14), none⟩,
  ⟨(some 16), .fa 16 (.t 15), none⟩,
  ⟨none, .st 1 (.t 16) (.k (.c (.int .i64 1))), none⟩]
abbrev o_rotaref09_Member_anew_3 : List IOper := [⟨(some 17), .mv (.t 0), none⟩,
  ⟨(some 18), .nilck (.t 17), none⟩,
  ⟨(some 19), .fa 17 (.t 18), none⟩,
  ⟨none, .st 1 (.t 19) (.k (.c (.int .i64 0))), none⟩]
def c_rotaref09_Member_anew : IC := (.seq (.ops o_rotaref09_Member_anew_0) (.seq (.ops o_rotaref09_Member_anew_1) (.seq (.ops o_rotaref09_Member_anew_2) (.ops o_rotaref09_Member_anew_3))))
def i_rotaref09_Member_anew : IFn := ⟨20, c_rotaref09_Member_anew, []⟩

-- F 59 (*rota/rotaref09.Member).turn: bads 0, calls []
abbrev o_rotaref09_Member_turn_0 : List IOper := [⟨(some 4), .mv (.k (.c (.int .i64 0))), none⟩]
abbrev o_rotaref09_Member_turn_1 : List IOper := [⟨(some 5), .mv (.t 0), none⟩,
  ⟨(some 6), .nilck (.t 5), none⟩,
  ⟨(some 7), .fa 0 (.t 6), none⟩,
  ⟨(some 8), .fa 1 (.t 7), none⟩,
  ⟨(some 9), .ld none (.t 8), none⟩,
  ⟨(some 10), .mv (.t 1), none⟩,
  ⟨(some 11), .mv (.t 0), none⟩,
  ⟨(some 12), .nilck (.t 11), none⟩,
  ⟨(some 13), .fa 0 (.t 12), none⟩,
  ⟨(some 14), .fa 0 (.t 13), none⟩,
  ⟨(some 15), .ld none (.t 14), none⟩,
  ⟨(some 16), .bin .rem (.t 10) (.t 15), none⟩,
  ⟨(some 17), .iaS 1 (.t 9) (.t 16), none⟩,
  ⟨(some 18), .ld none (.t 17), none⟩,
  ⟨(some 4), .mv (.t 18), none⟩]
def c_rotaref09_Member_turn : IC := (.seq (.ops o_rotaref09_Member_turn_0) (.seq (.ops o_rotaref09_Member_turn_1) .ret))
def i_rotaref09_Member_turn : IFn := ⟨19, c_rotaref09_Member_turn, [(4, none)]⟩

-- F 60 (*rota/rotaref09.Member).freeze: bads 0, calls [80]
abbrev o_rotaref09_Member_freeze_0 : List IOper := [⟨(some 2), .mv (.t 0), none⟩,
  ⟨(some 3), .nilck (.t 2), none⟩,
  ⟨(some 4), .fa 13 (.t 3), none⟩,
  ⟨none, .st 1 (.t 4) (.k (.c (.int .i64 3))), none⟩]
abbrev o_rotaref09_Member_freeze_1 : List IOper := [⟨(some 5), .mv (.t 0), none⟩,
  ⟨(some 6), .nilck (.t 5), none⟩,
  ⟨(some 7), .fa 14 (.t 6), none⟩,
  ⟨none, .st 1 (.t 7) (.k (.c (.int .i64 (-1)))), none⟩]
abbrev o_rotaref09_Member_freeze_2 : List IOper := [⟨(some 8), .mv (.t 0), none⟩,
  ⟨(some 9), .call (.k (.c (.fn fn_rotaref09_Member_nobody [] []))) [(.t 8)], none⟩]
abbrev o_rotaref09_Member_freeze_3 : List IOper := [⟨(some 10), .mv (.t 0), none⟩,
  ⟨(some 11), .nilck (.t 10), none⟩,
  ⟨(some 12), .fa 16 (.t 11), none⟩,
  ⟨none, .st 1 (.t 12) (.k (.c (.int .i64 0))), none⟩]
abbrev o_rotaref09_Member_freeze_4 : List IOper := [⟨(some 13), .mv (.t 0), none⟩,
  ⟨(some 14), .nilck (.t 13), none⟩,
  ⟨(some 15), .fa 17 (.t 14), none⟩,
  ⟨none, .st 1 (.t 15) (.k (.c (.int .i64 0))), none⟩]
def c_rotaref09_Member_freeze : IC := (.seq (.ops o_rotaref09_Member_freeze_0) (.seq (.ops o_rotaref09_Member_freeze_1) (.seq (.ops o_rotaref09_Member_freeze_2) (.seq (.ops o_rotaref09_Member_freeze_3) (.ops o_rotaref09_Member_freeze_4)))))
def i_rotaref09_Member_freeze : IFn := ⟨16, c_rotaref09_Member_freeze, []⟩

-- F 61 (*rota/rotaref09.Member).find: bads 0, calls [81, 59, 82]
abbrev o_rotaref09_Member_find_0 : List IOper := [⟨(some 6), .new 74 (.agg (List.replicate 2 (.int .i64 0) ++ [(.int .u16 0)] ++ List.replicate 64 (.int .u8 0))), none⟩,
  ⟨(some 7), .mv (.k (.c (.bool false))), none⟩]
abbrev o_rotaref09_Member_find_1 : List IOper := [⟨(some 12), .mv (.t 2), none⟩]
abbrev o_rotaref09_Member_find_2 : List IOper := [⟨(some 13), .mv (.t 0), none⟩,
  ⟨(some 14), .nilck (.t 13), none⟩,
  ⟨(some 15), .fa 19 (.t 14), none⟩,
  ⟨(some 16), .ld none (.t 15), none⟩,
  ⟨(some 17), .bin .add (.t 16) (.k (.c (.int .i64 1))), none⟩,
  ⟨(some 18), .nilck (.t 13), none⟩,
  ⟨(some 19), .fa 19 (.t 18), none⟩,
  ⟨none, .st 1 (.t 19) (.t 17), none⟩]
abbrev o_rotaref09_Member_find_3 : List IOper := [⟨(some 20), .build (List.replicate 2 (.int .i64 0) ++ [(.int .u16 0)] ++ List.replicate 64 (.int .u8 0)) [], none⟩,
  ⟨none, .st 67 (.t 6) (.t 20), none⟩,
  ⟨(some 7), .mv (.k (.c (.bool false))), none⟩]
abbrev o_rotaref09_Member_find_4 : List IOper := [⟨(some 21), .mv (.t 0), none⟩,
  ⟨(some 22), .nilck (.t 21), none⟩,
  ⟨(some 23), .fa 19 (.t 22), none⟩,
  ⟨none, .st 1 (.t 23) (.k (.c (.int .i64 0))), none⟩]
abbrev o_rotaref09_Member_find_5 : List IOper := [⟨(some 25), .mv (.t 1), none⟩,
  ⟨(some 26), .call (.k (.c (.fn fn_rotaref03_Decode [] []))) [(.t 25)], none⟩,
  ⟨(some 24), .mv (.t 26), none⟩,
  ⟨(some 27), .ext (.t 24) 0, none⟩,
  ⟨(some 28), .ext (.t 24) 1, none⟩,
  ⟨(some 8), .new 74 (.agg (List.replicate 2 (.int .i64 0) ++ [(.int .u16 0)] ++ List.replicate 64 (.int .u8 0))), none⟩,
  ⟨none, .st 67 (.t 8) (.t 27), none⟩,
  ⟨(some 9), .mv (.t 28), none⟩]
abbrev o_rotaref09_Member_find_6 : List IOper := [⟨(some 29), .mv (.t 9), none⟩,
  ⟨(some 30), .bin .neq (.t 29) (.k (.c (.int .i64 0))), none⟩,
  ⟨(some 31), .mv (.t 30), none⟩,
  ⟨(some 34), .mv (.t 0), some (31, false)⟩,
  ⟨(some 35), .nilck (.t 34), some (31, false)⟩,
  ⟨(some 36), .fa 12 (.t 35), some (31, false)⟩,
  ⟨(some 37), .ld none (.t 36), some (31, false)⟩,
  ⟨(some 32), .fa 0 (.t 8), some (31, false)⟩,
  ⟨(some 33), .ld none (.t 32), some (31, false)⟩,
  ⟨(some 38), .bin .eql (.t 33) (.t 37), some (31, false)⟩,
  ⟨(some 39), .pick (.t 31) (.k (.c (.bool true))) (.t 38), none⟩,
  ⟨(some 40), .mv (.t 39), none⟩,
  ⟨(some 46), .fa 0 (.t 8), some (40, false)⟩,
  ⟨(some 47), .ld none (.t 46), some (40, false)⟩,
  ⟨(some 42), .fa 1 (.t 8), some (40, false)⟩,
  ⟨(some 43), .fa 0 (.t 42), some (40, false)⟩,
  ⟨(some 44), .ld none (.t 43), some (40, false)⟩,
  ⟨(some 41), .mv (.t 0), some (40, false)⟩,
  ⟨(some 45), .call (.k (.c (.fn fn_rotaref09_Member_turn [] []))) [(.t 41), (.t 44)], some (40, false)⟩,
  ⟨none, .same (some none) (.t 46) (.t 47), some (40, false)⟩,
  ⟨(some 48), .bin .neq (.t 45) (.t 47), some (40, false)⟩,
  ⟨(some 49), .pick (.t 40) (.k (.c (.bool true))) (.t 48), none⟩]
abbrev o_rotaref09_Member_find_7 : List IOper := [⟨(some 50), .build (List.replicate 2 (.int .i64 0) ++ [(.int .u16 0)] ++ List.replicate 64 (.int .u8 0)) [], none⟩,
  ⟨none, .st 67 (.t 6) (.t 50), none⟩,
  ⟨(some 7), .mv (.k (.c (.bool false))), none⟩]
abbrev o_rotaref09_Member_find_8 : List IOper := [⟨(some 52), .fa 1 (.t 8), none⟩,
  ⟨(some 53), .fa 1 (.t 52), none⟩,
  ⟨(some 54), .ld none (.t 53), none⟩,
  ⟨(some 55), .mv (.t 0), none⟩,
  ⟨(some 56), .nilck (.t 55), none⟩,
  ⟨(some 57), .fa 0 (.t 56), none⟩,
  ⟨(some 58), .fa 0 (.t 57), none⟩,
  ⟨(some 59), .ld none (.t 58), none⟩,
  ⟨(some 60), .call (.k (.c (.fn fn_rotaref09_Parted [] []))) [(.t 54), (.t 59)], none⟩,
  ⟨(some 51), .mv (.t 60), none⟩,
  ⟨(some 61), .ext (.t 51) 0, none⟩,
  ⟨(some 62), .ext (.t 51) 1, none⟩,
  ⟨(some 10), .mv (.t 61), none⟩,
  ⟨(some 11), .mv (.t 62), none⟩]
abbrev o_rotaref09_Member_find_9 : List IOper := [⟨(some 63), .mv (.t 11), none⟩,
  ⟨(some 64), .un .not (.t 63), none⟩,
  ⟨(some 65), .mv (.t 64), none⟩,
  ⟨(some 66), .mv (.t 10), some (65, false)⟩,
  ⟨(some 67), .fa 0 (.t 8), some (65, false)⟩,
  ⟨(some 68), .ld none (.t 67), some (65, false)⟩,
  ⟨(some 69), .iaS 1 (.t 66) (.t 68), some (65, false)⟩,
  ⟨(some 70), .ld none (.t 69), some (65, false)⟩,
  ⟨(some 71), .un .not (.t 70), some (65, false)⟩,
  ⟨(some 72), .pick (.t 65) (.k (.c (.bool true))) (.t 71), none⟩]
abbrev o_rotaref09_Member_find_10 : List IOper := [⟨(some 73), .build (List.replicate 2 (.int .i64 0) ++ [(.int .u16 0)] ++ List.replicate 64 (.int .u8 0)) [], none⟩,
  ⟨none, .st 67 (.t 6) (.t 73), none⟩,
  ⟨(some 7), .mv (.k (.c (.bool false))), none⟩]
abbrev o_rotaref09_Member_find_11 : List IOper := [⟨(some 74), .mv (.t 0), none⟩,
  ⟨(some 75), .fa 1 (.t 8), none⟩,
  ⟨(some 76), .fa 0 (.t 75), none⟩,
  ⟨(some 77), .ld none (.t 76), none⟩,
  ⟨(some 78), .nilck (.t 74), none⟩,
  ⟨(some 79), .fa 14 (.t 78), none⟩,
  ⟨none, .st 1 (.t 79) (.t 77), none⟩]
abbrev o_rotaref09_Member_find_12 : List IOper := [⟨(some 80), .mv (.t 0), none⟩,
  ⟨(some 81), .mv (.t 10), none⟩,
  ⟨(some 82), .nilck (.t 80), none⟩,
  ⟨(some 83), .fa 15 (.t 82), none⟩,
  ⟨none, .st 1 (.t 83) (.t 81), none⟩]
abbrev o_rotaref09_Member_find_13 : List IOper := [⟨(some 84), .mv (.t 0), none⟩,
  ⟨(some 85), .nilck (.t 84), none⟩,
  ⟨(some 86), .fa 18 (.t 85), none⟩,
  ⟨none, .st 1 (.t 86) (.k (.c (.int .i64 1))), none⟩]
abbrev o_rotaref09_Member_find_14 : List IOper := [⟨(some 87), .ld (some 67) (.t 8), none⟩,
  ⟨none, .st 67 (.t 6) (.t 87), none⟩,
  ⟨(some 7), .mv (.k (.c (.bool true))), none⟩]
def c_rotaref09_Member_find : IC := (.seq (.ops o_rotaref09_Member_find_0) (.seq (.seq (.ops o_rotaref09_Member_find_1) (.cond (.t 12) (.seq (.ops o_rotaref09_Member_find_2) (.seq (.ops o_rotaref09_Member_find_3) .ret)) .skip)) (.seq (.ops o_rotaref09_Member_find_4) (.seq (.ops o_rotaref09_Member_find_5) (.seq (.seq (.ops o_rotaref09_Member_find_6) (.cond (.t 49) (.seq (.ops o_rotaref09_Member_find_7) .ret) .skip)) (.seq (.ops o_rotaref09_Member_find_8) (.seq (.seq (.ops o_rotaref09_Member_find_9) (.cond (.t 72) (.seq (.ops o_rotaref09_Member_find_10) .ret) .skip)) (.seq (.ops o_rotaref09_Member_find_11) (.seq (.ops o_rotaref09_Member_find_12) (.seq (.ops o_rotaref09_Member_find_13) (.seq (.ops o_rotaref09_Member_find_14) .ret)))))))))))
def i_rotaref09_Member_find : IFn := ⟨88, c_rotaref09_Member_find, [(6, (some (some 67))), (7, none)]⟩

-- F 62 (*rota/rotaref09.Member).astray: bads 0, calls [60, 57]
abbrev o_rotaref09_Member_astray_0 : List IOper := [⟨(some 2), .mv (.t 0), none⟩,
  ⟨(some 3), .nilck (.t 2), none⟩,
  ⟨(some 4), .fa 13 (.t 3), none⟩,
  ⟨(some 5), .ld none (.t 4), none⟩,
  ⟨(some 6), .bin .eql (.t 5) (.k (.c (.int .i64 2))), none⟩]
abbrev o_rotaref09_Member_astray_1 : List IOper := [⟨(some 7), .mv (.t 0), none⟩,
  ⟨(some 8), .call (.k (.c (.fn fn_rotaref09_Member_freeze [] []))) [(.t 7)], none⟩]
abbrev o_rotaref09_Member_astray_2 : List IOper := [⟨(some 9), .mv (.t 0), none⟩,
  ⟨(some 10), .call (.k (.c (.fn fn_rotaref09_Member_stop [] []))) [(.t 9)], none⟩]
def c_rotaref09_Member_astray : IC := (.seq (.ops o_rotaref09_Member_astray_0) (.cond (.t 6) (.ops o_rotaref09_Member_astray_1) (.ops o_rotaref09_Member_astray_2)))
def i_rotaref09_Member_astray : IFn := ⟨11, c_rotaref09_Member_astray, []⟩

-- F 63 rota/rotaref03.Accept: bads 0, calls [83, 84, 85]
abbrev o_rotaref03_Accept_0 : List IOper := [⟨(some 5), .box 69 (.t 2), none⟩,
  ⟨(some 6), .new 74 (.agg (List.replicate 2 (.int .i64 0) ++ [(.int .u16 0)] ++ List.replicate 64 (.int .u8 0))), none⟩,
  ⟨(some 7), .mv (.k (.c (.int .i64 0))), none⟩]
abbrev o_rotaref03_Accept_1 : List IOper := [⟨(some 12), .mv (.t 0), none⟩,
  ⟨(some 13), .call (.k (.c (.fn fn_rotaref03_told [] []))) [(.t 12)], none⟩,
  ⟨(some 11), .mv (.t 13), none⟩,
  ⟨(some 14), .ext (.t 11) 0, none⟩,
  ⟨(some 15), .ext (.t 11) 1, none⟩,
  ⟨(some 8), .new 74 (.agg (List.replicate 2 (.int .i64 0) ++ [(.int .u16 0)] ++ List.replicate 64 (.int .u8 0))), none⟩,
  ⟨none, .st 67 (.t 8) (.t 14), none⟩,
  ⟨(some 9), .mv (.t 15), none⟩]
abbrev o_rotaref03_Accept_2 : List IOper := [⟨(some 16), .mv (.t 9), none⟩,
  ⟨(some 17), .un .not (.t 16), none⟩]
abbrev o_rotaref03_Accept_3 : List IOper := [⟨(some 18), .build (List.replicate 2 (.int .i64 0) ++ [(.int .u16 0)] ++ List.replicate 64 (.int .u8 0)) [], none⟩,
  ⟨none, .st 67 (.t 6) (.t 18), none⟩,
  ⟨(some 7), .mv (.k (.c (.int .i64 30))), none⟩]
abbrev o_rotaref03_Accept_4 : List IOper := [⟨(some 19), .ld (some 2) (.t 5), none⟩,
  ⟨(some 20), .call (.k (.c (.fn fn_rotaref03_State [] []))) [(.t 19)], none⟩,
  ⟨(some 21), .mv (.t 0), none⟩,
  ⟨(some 22), .slS 1 (.t 21) (some (.k (.c (.int .i64 6)))) (some (.k (.c (.int .i64 71)))) none, none⟩,
  ⟨(some 23), .app 5 1 1 (.t 20) (.t 22), none⟩,
  ⟨(some 10), .mv (.t 23), none⟩]
abbrev o_rotaref03_Accept_5 : List IOper := [⟨(some 24), .mv (.t 0), none⟩,
  ⟨(some 25), .mv (.t 10), none⟩,
  ⟨(some 26), .call (.k (.c (.fn fn_rotaref03_sealed [] []))) [(.t 24), (.t 25)], none⟩,
  ⟨(some 27), .un .not (.t 26), none⟩]
abbrev o_rotaref03_Accept_6 : List IOper := [⟨(some 28), .build (List.replicate 2 (.int .i64 0) ++ [(.int .u16 0)] ++ List.replicate 64 (.int .u8 0)) [], none⟩,
  ⟨none, .st 67 (.t 6) (.t 28), none⟩,
  ⟨(some 7), .mv (.k (.c (.int .i64 31))), none⟩]
abbrev o_rotaref03_Accept_7 : List IOper := [⟨(some 29), .fa 0 (.t 8), none⟩,
  ⟨(some 30), .ld none (.t 29), none⟩,
  ⟨(some 31), .mv (.t 1), none⟩,
  ⟨(some 32), .bin .neq (.t 30) (.t 31), none⟩,
  ⟨(some 33), .mv (.t 32), none⟩,
  ⟨(some 34), .fa 1 (.t 8), some (33, false)⟩,
  ⟨(some 35), .ld (some 2) (.t 34), some (33, false)⟩,
  ⟨(some 36), .ld (some 2) (.t 5), some (33, false)⟩,
  ⟨(some 37), .eqagg [.int, .int] true (.t 35) (.t 36), some (33, false)⟩,
  ⟨(some 38), .pick (.t 33) (.k (.c (.bool true))) (.t 37), none⟩]
abbrev o_rotaref03_Accept_8 : List IOper := [⟨(some 39), .build (List.replicate 2 (.int .i64 0) ++ [(.int .u16 0)] ++ List.replicate 64 (.int .u8 0)) [], none⟩,
  ⟨none, .st 67 (.t 6) (.t 39), none⟩,
  ⟨(some 7), .mv (.k (.c (.int .i64 30))), none⟩]
abbrev o_rotaref03_Accept_9 : List IOper := [⟨(some 40), .ld (some 67) (.t 8), none⟩,
  ⟨none, .st 67 (.t 6) (.t 40), none⟩,
  ⟨(some 7), .mv (.k (.c (.int .i64 0))), none⟩]
def c_rotaref03_Accept : IC := (.seq (.ops o_rotaref03_Accept_0) (.seq (.ops o_rotaref03_Accept_1) (.seq (.seq (.ops o_rotaref03_Accept_2) (.cond (.t 17) (.seq (.ops o_rotaref03_Accept_3) .ret) .skip)) (.seq (.ops o_rotaref03_Accept_4) (.seq (.seq (.ops o_rotaref03_Accept_5) (.cond (.t 27) (.seq (.ops o_rotaref03_Accept_6) .ret) .skip)) (.seq (.seq (.ops o_rotaref03_Accept_7) (.cond (.t 38) (.seq (.ops o_rotaref03_Accept_8) .ret) .skip)) (.seq (.ops o_rotaref03_Accept_9) .ret)))))))
def i_rotaref03_Accept : IFn := ⟨41, c_rotaref03_Accept, [(6, (some (some 67))), (7, none)]⟩

-- F 64 (*rota/member.Member).bits: bads 0, calls [86]
abbrev o_member_Member_bits_0 : List IOper := [⟨(some 1), .box 36 (.t 0), none⟩,
  ⟨(some 2), .mv (.k (.c .nilFn)), none⟩]
abbrev o_member_Member_bits_1 : List IOper := [⟨(some 3), .mkfn fn_member_Member_bits_1 [] [(.t 1)], none⟩,
  ⟨(some 2), .mv (.t 3), none⟩]
def c_member_Member_bits : IC := (.seq (.ops o_member_Member_bits_0) (.seq (.ops o_member_Member_bits_1) .ret))
def i_member_Member_bits : IFn := ⟨4, c_member_Member_bits, [(2, none)]⟩

-- F 65 (*rota/member.Member).freeze: bads 0, calls []
abbrev o_member_Member_freeze_0 : List IOper := [⟨(some 2), .mv (.t 0), none⟩,
  ⟨(some 3), .mv (.t 0), none⟩,
  ⟨(some 4), .mv (.t 0), none⟩,
  ⟨(some 5), .mv (.t 0), none⟩,
  ⟨(some 6), .mv (.t 0), none⟩,
  ⟨(some 7), .nilck (.t 2), none⟩,
  ⟨(some 8), .fa 13 (.t 7), none⟩,
  ⟨none, .st 1 (.t 8) (.k (.c (.int .i64 3))), none⟩,
  ⟨(some 9), .nilck (.t 3), none⟩,
  ⟨(some 10), .fa 14 (.t 9), none⟩,
  ⟨none, .st 1 (.t 10) (.k (.c (.int .i64 (-1)))), none⟩,
  ⟨(some 11), .nilck (.t 4), none⟩,
  ⟨(some 12), .fa 15 (.t 11), none⟩,
  ⟨none, .st 1 (.t 12) (.k (.c (.int .u16 0))), none⟩,
  ⟨(some 13), .nilck (.t 5), none⟩,
  ⟨(some 14), .fa 16 (.t 13), none⟩,
  ⟨none, .st 1 (.t 14) (.k (.c (.int .i64 0))), none⟩,
  ⟨(some 15), .nilck (.t 6), none⟩,
  ⟨(some 16), .fa 17 (.t 15), none⟩,
  ⟨none, .st 1 (.t 16) (.k (.c (.int .i64 0))), none⟩]
def c_member_Member_freeze : IC := (.ops o_member_Member_freeze_0)
def i_member_Member_freeze : IFn := ⟨17, c_member_Member_freeze, []⟩

-- F 66 rota/frame.Decode: bads 0, calls [87, 49, 88]
abbrev o_frame_Decode_0 : List IOper := [⟨(some 2), .new 74 (.agg (List.replicate 2 (.int .i64 0) ++ [(.int .u16 0)] ++ List.replicate 64 (.int .u8 0))), none⟩,
  ⟨(some 3), .mv (.k (.c (.int .i64 0))), none⟩]
abbrev o_frame_Decode_1 : List IOper := [⟨(some 7), .mv (.t 0), none⟩,
  ⟨(some 8), .call (.k (.c (.fn fn_frame_read [] []))) [(.t 7)], none⟩,
  ⟨(some 6), .mv (.t 8), none⟩,
  ⟨(some 9), .ext (.t 6) 0, none⟩,
  ⟨(some 10), .ext (.t 6) 1, none⟩,
  ⟨(some 4), .new 74 (.agg (List.replicate 2 (.int .i64 0) ++ [(.int .u16 0)] ++ List.replicate 64 (.int .u8 0))), none⟩,
  ⟨none, .st 67 (.t 4) (.t 9), none⟩,
  ⟨(some 5), .mv (.t 10), none⟩]
abbrev o_frame_Decode_2 : List IOper := [⟨(some 11), .mv (.t 5), none⟩,
  ⟨(some 12), .un .not (.t 11), none⟩]
abbrev o_frame_Decode_3 : List IOper := [⟨(some 13), .build (List.replicate 2 (.int .i64 0) ++ [(.int .u16 0)] ++ List.replicate 64 (.int .u8 0)) [], none⟩,
  ⟨none, .st 67 (.t 2) (.t 13), none⟩,
  ⟨(some 3), .mv (.k (.c (.int .i64 30))), none⟩]
abbrev o_frame_Decode_4 : List IOper := [⟨(some 14), .mv (.t 0), none⟩,
  ⟨(some 15), .mv (.t 0), none⟩,
  ⟨(some 16), .slS 1 (.t 15) none (some (.k (.c (.int .i64 71)))) none, none⟩,
  ⟨(some 17), .call (.k (.c (.fn fn_sum_Sum [] []))) [(.t 16)], none⟩,
  ⟨(some 18), .call (.k (.c (.fn fn_frame_checked [] []))) [(.t 14), (.t 17)], none⟩,
  ⟨(some 19), .un .not (.t 18), none⟩]
abbrev o_frame_Decode_5 : List IOper := [⟨(some 20), .build (List.replicate 2 (.int .i64 0) ++ [(.int .u16 0)] ++ List.replicate 64 (.int .u8 0)) [], none⟩,
  ⟨none, .st 67 (.t 2) (.t 20), none⟩,
  ⟨(some 3), .mv (.k (.c (.int .i64 31))), none⟩]
abbrev o_frame_Decode_6 : List IOper := [⟨(some 21), .ld (some 67) (.t 4), none⟩,
  ⟨none, .st 67 (.t 2) (.t 21), none⟩,
  ⟨(some 3), .mv (.k (.c (.int .i64 0))), none⟩]
def c_frame_Decode : IC := (.seq (.ops o_frame_Decode_0) (.seq (.ops o_frame_Decode_1) (.seq (.seq (.ops o_frame_Decode_2) (.cond (.t 12) (.seq (.ops o_frame_Decode_3) .ret) .skip)) (.seq (.seq (.ops o_frame_Decode_4) (.cond (.t 19) (.seq (.ops o_frame_Decode_5) .ret) .skip)) (.seq (.ops o_frame_Decode_6) .ret)))))
def i_frame_Decode : IFn := ⟨22, c_frame_Decode, [(2, (some (some 67))), (3, none)]⟩

-- F 67 rota/frame.Accept: bads 0, calls [87, 48, 49, 68, 88]
abbrev o_frame_Accept_0 : List IOper := [⟨(some 5), .box 69 (.t 2), none⟩,
  ⟨(some 6), .new 74 (.agg (List.replicate 2 (.int .i64 0) ++ [(.int .u16 0)] ++ List.replicate 64 (.int .u8 0))), none⟩,
  ⟨(some 7), .mv (.k (.c (.int .i64 0))), none⟩]
abbrev o_frame_Accept_1 : List IOper := [⟨(some 11), .mv (.t 0), none⟩,
  ⟨(some 12), .call (.k (.c (.fn fn_frame_read [] []))) [(.t 11)], none⟩,
  ⟨(some 10), .mv (.t 12), none⟩,
  ⟨(some 13), .ext (.t 10) 0, none⟩,
  ⟨(some 14), .ext (.t 10) 1, none⟩,
  ⟨(some 8), .new 74 (.agg (List.replicate 2 (.int .i64 0) ++ [(.int .u16 0)] ++ List.replicate 64 (.int .u8 0))), none⟩,
  ⟨none, .st 67 (.t 8) (.t 13), none⟩,
  ⟨(some 9), .mv (.t 14), none⟩]
abbrev o_frame_Accept_2 : List IOper := [⟨(some 15), .mv (.t 9), none⟩,
  ⟨(some 16), .un .not (.t 15), none⟩]
abbrev o_frame_Accept_3 : List IOper := [⟨(some 17), .build (List.replicate 2 (.int .i64 0) ++ [(.int .u16 0)] ++ List.replicate 64 (.int .u8 0)) [], none⟩,
  ⟨none, .st 67 (.t 6) (.t 17), none⟩,
  ⟨(some 7), .mv (.k (.c (.int .i64 30))), none⟩]
abbrev o_frame_Accept_4 : List IOper := [⟨(some 18), .mv (.t 0), none⟩,
  ⟨(some 19), .ld (some 2) (.t 5), none⟩,
  ⟨(some 20), .call (.k (.c (.fn fn_frame_state [] []))) [(.t 19)], none⟩,
  ⟨(some 21), .call (.k (.c (.fn fn_sum_Sum [] []))) [(.t 20)], none⟩,
  ⟨(some 22), .mv (.t 0), none⟩,
  ⟨(some 23), .slS 1 (.t 22) (some (.k (.c (.int .i64 6)))) (some (.k (.c (.int .i64 71)))) none, none⟩,
  ⟨(some 24), .call (.k (.c (.fn fn_sum_More [] []))) [(.t 21), (.t 23)], none⟩,
  ⟨(some 25), .call (.k (.c (.fn fn_frame_checked [] []))) [(.t 18), (.t 24)], none⟩,
  ⟨(some 26), .un .not (.t 25), none⟩]
abbrev o_frame_Accept_5 : List IOper := [⟨(some 27), .build (List.replicate 2 (.int .i64 0) ++ [(.int .u16 0)] ++ List.replicate 64 (.int .u8 0)) [], none⟩,
  ⟨none, .st 67 (.t 6) (.t 27), none⟩,
  ⟨(some 7), .mv (.k (.c (.int .i64 31))), none⟩]
abbrev o_frame_Accept_6 : List IOper := [⟨(some 28), .fa 0 (.t 8), none⟩,
  ⟨(some 29), .ld none (.t 28), none⟩,
  ⟨(some 30), .mv (.t 1), none⟩,
  ⟨(some 31), .bin .neq (.t 29) (.t 30), none⟩,
  ⟨(some 32), .mv (.t 31), none⟩,
  ⟨(some 33), .fa 1 (.t 8), some (32, false)⟩,
  ⟨(some 34), .ld (some 2) (.t 33), some (32, false)⟩,
  ⟨(some 35), .ld (some 2) (.t 5), some (32, false)⟩,
  ⟨(some 36), .eqagg [.int, .int] true (.t 34) (.t 35), some (32, false)⟩,
  ⟨(some 37), .pick (.t 32) (.k (.c (.bool true))) (.t 36), none⟩]
abbrev o_frame_Accept_7 : List IOper := [⟨(some 38), .build (List.replicate 2 (.int .i64 0) ++ [(.int .u16 0)] ++ List.replicate 64 (.int .u8 0)) [], none⟩,
  ⟨none, .st 67 (.t 6) (.t 38), none⟩,
  ⟨(some 7), .mv (.k (.c (.int .i64 30))), none⟩]
abbrev o_frame_Accept_8 : List IOper := [⟨(some 39), .ld (some 67) (.t 8), none⟩,
  ⟨none, .st 67 (.t 6) (.t 39), none⟩,
  ⟨(some 7), .mv (.k (.c (.int .i64 0))), none⟩]
def c_frame_Accept : IC := (.seq (.ops o_frame_Accept_0) (.seq (.ops o_frame_Accept_1) (.seq (.seq (.ops o_frame_Accept_2) (.cond (.t 16) (.seq (.ops o_frame_Accept_3) .ret) .skip)) (.seq (.seq (.ops o_frame_Accept_4) (.cond (.t 26) (.seq (.ops o_frame_Accept_5) .ret) .skip)) (.seq (.seq (.ops o_frame_Accept_6) (.cond (.t 37) (.seq (.ops o_frame_Accept_7) .ret) .skip)) (.seq (.ops o_frame_Accept_8) .ret))))))
def i_frame_Accept : IFn := ⟨40, c_frame_Accept, [(6, (some (some 67))), (7, none)]⟩

-- F 68 rota/sum.More: bads 0, calls []
abbrev o_sum_More_0 : List IOper := [⟨(some 4), .mv (.k (.c (.int .u32 0))), none⟩]
abbrev o_sum_More_1 : List IOper := [⟨(some 8), .mv (.t 0), none⟩,
  ⟨(some 9), .un .xor (.t 8), none⟩,
  ⟨(some 5), .mv (.t 9), none⟩]
abbrev o_sum_More_2 : List IOper := [⟨(some 10), .mv (.t 1), none⟩,
  ⟨(some 11), .len false (.t 10), none⟩,
  ⟨(some 12), .mv (.k (.c (.int .i64 0))), none⟩]
abbrev o_sum_More_3 : List IOper := [⟨(some 13), .bin .lss (.t 12) (.t 11), none⟩]
abbrev o_sum_More_4 : List IOper := [⟨(some 14), .iaS 1 (.t 10) (.t 12), none⟩,
  ⟨(some 15), .ld none (.t 14), none⟩,
  ⟨(some 7), .mv (.t 15), none⟩]
abbrev o_sum_More_5 : List IOper := [⟨(some 16), .mv (.t 5), none⟩,
  ⟨(some 17), .mv (.t 7), none⟩,
  ⟨(some 18), .cv .u32 (.t 17), none⟩,
  ⟨(some 19), .bin .xor (.t 16) (.t 18), none⟩,
  ⟨(some 5), .mv (.t 19), none⟩]
abbrev o_sum_More_6 : List IOper := [⟨(some 20), .mv (.t 5), none⟩,
  ⟨(some 21), .bin .shr (.t 20) (.k (.c (.int .u64 4))), none⟩,
  ⟨(some 22), .mv (.t 5), none⟩,
  ⟨(some 23), .bin .and (.t 22) (.k (.c (.int .u32 15))), none⟩,
  ⟨(some 24), .iaA 16 1 (.k (.c (.ptr (some (0, 0))))) (.t 23), none⟩,
  ⟨(some 25), .ld none (.t 24), none⟩,
  ⟨(some 26), .bin .xor (.t 21) (.t 25), none⟩,
  ⟨(some 5), .mv (.t 26), none⟩]
abbrev o_sum_More_7 : List IOper := [⟨(some 27), .mv (.t 5), none⟩,
  ⟨(some 28), .bin .shr (.t 27) (.k (.c (.int .u64 4))), none⟩,
  ⟨(some 29), .mv (.t 5), none⟩,
  ⟨(some 30), .bin .and (.t 29) (.k (.c (.int .u32 15))), none⟩,
  ⟨(some 31), .iaA 16 1 (.k (.c (.ptr (some (0, 0))))) (.t 30), none⟩,
  ⟨(some 32), .ld none (.t 31), none⟩,
  ⟨(some 33), .bin .xor (.t 28) (.t 32), none⟩,
  ⟨(some 5), .mv (.t 33), none⟩]
abbrev o_sum_More_8 : List IOper := [⟨(some 34), .bin .add (.t 12) (.k (.c (.int .i64 1))), none⟩,
  ⟨(some 12), .mv (.t 34), none⟩]
def b_sum_More_9 : IC := (.seq (.ops o_sum_More_3) (.seq (.cond (.t 13) .skip (.exit 0)) (.seq (.block 1 (.seq (.ops o_sum_More_4) (.seq (.ops o_sum_More_5) (.seq (.ops o_sum_More_6) (.ops o_sum_More_7))))) (.ops o_sum_More_8))))
abbrev o_sum_More_10 : List IOper := [⟨(some 35), .mv (.t 5), none⟩,
  ⟨(some 36), .un .xor (.t 35), none⟩,
  ⟨(some 4), .mv (.t 36), none⟩]
def c_sum_More : IC := (.seq (.ops o_sum_More_0) (.seq (.ops o_sum_More_1) (.seq (.seq (.ops o_sum_More_2) (.block 0 (.loop b_sum_More_9))) (.seq (.ops o_sum_More_10) .ret))))
def i_sum_More : IFn := ⟨37, c_sum_More, [(4, none)]⟩

-- F 69 rota/config.nodes: bads 0, calls [89, 90]
abbrev o_config_nodes_0 : List IOper := [⟨(some 1), .box 28 (.t 0), none⟩,
  ⟨(some 2), .mv (.k (.c (.bool false))), none⟩]
abbrev o_config_nodes_1 : List IOper := [⟨(some 4), .fa 0 (.t 1), none⟩,
  ⟨(some 5), .ld none (.t 4), none⟩,
  ⟨(some 6), .call (.k (.c (.fn fn_config_within [] []))) [(.t 5), (.k (.c (.int .i64 4))), (.k (.c (.int .i64 16)))], none⟩,
  ⟨(some 7), .un .not (.t 6), none⟩,
  ⟨(some 8), .mv (.t 7), none⟩,
  ⟨(some 9), .fa 1 (.t 1), some (8, false)⟩,
  ⟨(some 10), .ld none (.t 9), some (8, false)⟩,
  ⟨(some 11), .len false (.t 10), some (8, false)⟩,
  ⟨(some 12), .fa 0 (.t 1), some (8, false)⟩,
  ⟨(some 13), .ld none (.t 12), some (8, false)⟩,
  ⟨(some 14), .bin .neq (.t 11) (.t 13), some (8, false)⟩,
  ⟨(some 15), .pick (.t 8) (.k (.c (.bool true))) (.t 14), none⟩]
abbrev o_config_nodes_2 : List IOper := [⟨(some 2), .mv (.k (.c (.bool false))), none⟩]
abbrev o_config_nodes_3 : List IOper := [⟨(some 16), .fa 0 (.t 1), none⟩,
  ⟨(some 17), .ld none (.t 16), none⟩,
  ⟨(some 18), .mv (.k (.c (.int .i64 0))), none⟩]
abbrev o_config_nodes_4 : List IOper := [⟨(some 19), .bin .lss (.t 18) (.t 17), none⟩]
abbrev o_config_nodes_5 : List IOper := [⟨(some 20), .mv (.t 18), none⟩,
  ⟨(some 3), .mv (.t 20), none⟩]
abbrev o_config_nodes_6 : List IOper := [⟨(some 21), .fa 1 (.t 1), none⟩,
  ⟨(some 22), .ld none (.t 21), none⟩,
  ⟨(some 23), .mv (.t 3), none⟩,
  ⟨(some 24), .call (.k (.c (.fn fn_slices_Contains_int_int [] []))) [(.t 22), (.t 23)], none⟩,
  ⟨(some 25), .un .not (.t 24), none⟩]
abbrev o_config_nodes_7 : List IOper := [⟨(some 2), .mv (.k (.c (.bool false))), none⟩]
abbrev o_config_nodes_8 : List IOper := [⟨(some 26), .bin .add (.t 18) (.k (.c (.int .i64 1))), none⟩,
  ⟨(some 18), .mv (.t 26), none⟩]
def b_config_nodes_9 : IC := (.seq (.ops o_config_nodes_4) (.seq (.cond (.t 19) .skip (.exit 0)) (.seq (.block 1 (.seq (.ops o_config_nodes_5) (.seq (.ops o_config_nodes_6) (.cond (.t 25) (.seq (.ops o_config_nodes_7) .ret) .skip)))) (.ops o_config_nodes_8))))
abbrev o_config_nodes_10 : List IOper := [⟨(some 2), .mv (.k (.c (.bool true))), none⟩]
def c_config_nodes : IC := (.seq (.ops o_config_nodes_0) (.seq (.seq (.ops o_config_nodes_1) (.cond (.t 15) (.seq (.ops o_config_nodes_2) .ret) .skip)) (.seq (.seq (.ops o_config_nodes_3) (.block 0 (.loop b_config_nodes_9))) (.seq (.ops o_config_nodes_10) .ret))))
def i_config_nodes : IFn := ⟨27, c_config_nodes, [(2, none)]⟩

-- F 70 rota/config.clocks: bads 0, calls [89, 89, 91, 89, 89, 89, 89]
abbrev o_config_clocks_0 : List IOper := [⟨(some 1), .box 28 (.t 0), none⟩,
  ⟨(some 2), .mv (.k (.c (.bool false))), none⟩]
abbrev o_config_clocks_1 : List IOper := [⟨(some 4), .fa 2 (.t 1), none⟩,
  ⟨(some 5), .ld none (.t 4), none⟩,
  ⟨(some 6), .call (.k (.c (.fn fn_config_within [] []))) [(.t 5), (.k (.c (.int .i64 0))), (.k (.c (.int .i64 1048576)))], none⟩,
  ⟨(some 7), .un .not (.t 6), none⟩,
  ⟨(some 8), .mv (.t 7), none⟩,
  ⟨(some 9), .fa 3 (.t 1), some (8, false)⟩,
  ⟨(some 10), .ld none (.t 9), some (8, false)⟩,
  ⟨(some 11), .call (.k (.c (.fn fn_config_within [] []))) [(.t 10), (.k (.c (.int .i64 0))), (.k (.c (.int .i64 1048576)))], some (8, false)⟩,
  ⟨(some 12), .un .not (.t 11), some (8, false)⟩,
  ⟨(some 13), .pick (.t 8) (.k (.c (.bool true))) (.t 12), none⟩]
abbrev o_config_clocks_2 : List IOper := [⟨(some 2), .mv (.k (.c (.bool false))), none⟩]
abbrev o_config_clocks_3 : List IOper := [⟨(some 17), .fa 3 (.t 1), none⟩,
  ⟨(some 18), .ld none (.t 17), none⟩,
  ⟨(some 14), .ld (some 12) (.t 1), none⟩,
  ⟨(some 15), .call (.k (.c (.fn fn_config_Precision [] []))) [(.t 14)], none⟩,
  ⟨none, .same (some none) (.t 17) (.t 18), none⟩,
  ⟨(some 16), .bin .mul (.k (.c (.int .i64 2))) (.t 15), none⟩,
  ⟨(some 19), .bin .add (.t 16) (.t 18), none⟩,
  ⟨(some 3), .mv (.t 19), none⟩]
abbrev o_config_clocks_4 : List IOper := [⟨(some 20), .fa 4 (.t 1), none⟩,
  ⟨(some 21), .ld none (.t 20), none⟩,
  ⟨(some 22), .mv (.t 3), none⟩,
  ⟨(some 23), .call (.k (.c (.fn fn_config_within [] []))) [(.t 21), (.t 22), (.k (.c (.int .i64 16777216)))], none⟩,
  ⟨(some 24), .mv (.t 23), none⟩,
  ⟨(some 25), .fa 5 (.t 1), some (24, true)⟩,
  ⟨(some 26), .ld none (.t 25), some (24, true)⟩,
  ⟨(some 27), .mv (.t 3), some (24, true)⟩,
  ⟨(some 28), .call (.k (.c (.fn fn_config_within [] []))) [(.t 26), (.t 27), (.k (.c (.int .i64 16777216)))], some (24, true)⟩,
  ⟨(some 29), .pick (.t 24) (.t 28) (.k (.c (.bool false))), none⟩,
  ⟨(some 30), .mv (.t 29), none⟩,
  ⟨(some 31), .fa 6 (.t 1), some (30, true)⟩,
  ⟨(some 32), .ld none (.t 31), some (30, true)⟩,
  ⟨(some 33), .call (.k (.c (.fn fn_config_within [] []))) [(.t 32), (.k (.c (.int .i64 1))), (.k (.c (.int .i64 8)))], some (30, true)⟩,
  ⟨(some 34), .pick (.t 30) (.t 33) (.k (.c (.bool false))), none⟩,
  ⟨(some 35), .mv (.t 34), none⟩,
  ⟨(some 36), .fa 7 (.t 1), some (35, true)⟩,
  ⟨(some 37), .ld none (.t 36), some (35, true)⟩,
  ⟨(some 38), .call (.k (.c (.fn fn_config_within [] []))) [(.t 37), (.k (.c (.int .i64 1))), (.k (.c (.int .i64 16)))], some (35, true)⟩,
  ⟨(some 39), .pick (.t 35) (.t 38) (.k (.c (.bool false))), none⟩,
  ⟨(some 2), .mv (.t 39), none⟩]
def c_config_clocks : IC := (.seq (.ops o_config_clocks_0) (.seq (.seq (.ops o_config_clocks_1) (.cond (.t 13) (.seq (.ops o_config_clocks_2) .ret) .skip)) (.seq (.ops o_config_clocks_3) (.seq (.ops o_config_clocks_4) .ret))))
def i_config_clocks : IFn := ⟨40, c_config_clocks, [(2, none)]⟩

-- F 71 rota/config.parts: bads 0, calls [89, 89, 92, 93]
abbrev o_config_parts_0 : List IOper := [⟨(some 1), .box 28 (.t 0), none⟩,
  ⟨(some 2), .new 4 (.c (.bool false)), none⟩]
abbrev o_config_parts_1 : List IOper := [⟨(some 9), .fa 8 (.t 1), none⟩,
  ⟨(some 10), .ld none (.t 9), none⟩,
  ⟨(some 11), .len false (.t 10), none⟩,
  ⟨(some 12), .bin .gtr (.t 11) (.k (.c (.int .i64 32))), none⟩]
abbrev o_config_parts_2 : List IOper := [⟨none, .st 1 (.t 2) (.k (.c (.bool false))), none⟩]
abbrev o_config_parts_3 : List IOper := [⟨(some 13), .fa 8 (.t 1), none⟩,
  ⟨(some 14), .ld none (.t 13), none⟩,
  ⟨(some 15), .len false (.t 14), none⟩,
  ⟨(some 16), .mv (.k (.c (.int .i64 0))), none⟩]
abbrev o_config_parts_4 : List IOper := [⟨(some 17), .bin .lss (.t 16) (.t 15), none⟩]
abbrev o_config_parts_5 : List IOper := [⟨(some 18), .iaS 3 (.t 14) (.t 16), none⟩,
  ⟨(some 19), .ld (some 3) (.t 18), none⟩,
  ⟨(some 4), .new 109 (.agg [(.int .i64 0), (.int .i64 0), (.int .i64 0)]), none⟩,
  ⟨none, .st 3 (.t 4) (.t 19), none⟩]
abbrev o_config_parts_6 : List IOper := [⟨(some 20), .fa 0 (.t 4), none⟩,
  ⟨(some 21), .ld none (.t 20), none⟩,
  ⟨(some 22), .fa 0 (.t 1), none⟩,
  ⟨(some 23), .ld none (.t 22), none⟩,
  ⟨(some 24), .bin .sub (.t 23) (.k (.c (.int .i64 1))), none⟩,
  ⟨(some 25), .call (.k (.c (.fn fn_config_within [] []))) [(.t 21), (.k (.c (.int .i64 0))), (.t 24)], none⟩,
  ⟨(some 26), .un .not (.t 25), none⟩,
  ⟨(some 27), .mv (.t 26), none⟩,
  ⟨(some 28), .fa 1 (.t 4), some (27, false)⟩,
  ⟨(some 29), .ld none (.t 28), some (27, false)⟩,
  ⟨(some 30), .fa 2 (.t 4), some (27, false)⟩,
  ⟨(some 31), .ld none (.t 30), some (27, false)⟩,
  ⟨(some 32), .call (.k (.c (.fn fn_config_within [] []))) [(.t 29), (.k (.c (.int .i64 0))), (.t 31)], some (27, false)⟩,
  ⟨(some 33), .un .not (.t 32), some (27, false)⟩,
  ⟨(some 34), .pick (.t 27) (.k (.c (.bool true))) (.t 33), none⟩,
  ⟨(some 35), .mv (.t 34), none⟩,
  ⟨(some 36), .fa 2 (.t 4), some (35, false)⟩,
  ⟨(some 37), .ld none (.t 36), some (35, false)⟩,
  ⟨(some 38), .bin .gtr (.t 37) (.k (.c (.int .i64 256))), some (35, false)⟩,
  ⟨(some 39), .pick (.t 35) (.k (.c (.bool true))) (.t 38), none⟩]
abbrev o_config_parts_7 : List IOper := [⟨none, .st 1 (.t 2) (.k (.c (.bool false))), none⟩]
abbrev o_config_parts_8 : List IOper := [⟨(some 40), .bin .add (.t 16) (.k (.c (.int .i64 1))), none⟩,
  ⟨(some 16), .mv (.t 40), none⟩]
def b_config_parts_9 : IC := (.seq (.ops o_config_parts_4) (.seq (.cond (.t 17) .skip (.exit 0)) (.seq (.block 1 (.seq (.ops o_config_parts_5) (.seq (.ops o_config_parts_6) (.cond (.t 39) (.seq (.ops o_config_parts_7) .ret) .skip)))) (.ops o_config_parts_8))))
abbrev o_config_parts_10 : List IOper := [⟨(some 41), .fa 8 (.t 1), none⟩,
  ⟨(some 42), .ld none (.t 41), none⟩,
  ⟨(some 43), .len false (.t 42), none⟩,
  ⟨(some 44), .call (.k (.c (.fn fn_config_pairs [] []))) [(.t 43)], none⟩]
abbrev o_config_parts_11 : List IOper := [⟨(some 5), .mv (.t 45), none⟩]
abbrev o_config_parts_12 : List IOper := [⟨(some 6), .mv (.t 46), none⟩]
abbrev o_config_parts_13 : List IOper := [⟨(some 54), .mv (.t 6), none⟩,
  ⟨(some 52), .fa 8 (.t 1), none⟩,
  ⟨(some 53), .ld none (.t 52), none⟩,
  ⟨(some 55), .iaS 3 (.t 53) (.t 54), none⟩,
  ⟨(some 56), .ld (some 3) (.t 55), none⟩,
  ⟨(some 49), .mv (.t 5), none⟩,
  ⟨(some 47), .fa 8 (.t 1), none⟩,
  ⟨(some 48), .ld none (.t 47), none⟩,
  ⟨(some 50), .iaS 3 (.t 48) (.t 49), none⟩,
  ⟨(some 51), .ld (some 3) (.t 50), none⟩,
  ⟨(some 7), .new 109 (.agg [(.int .i64 0), (.int .i64 0), (.int .i64 0)]), none⟩,
  ⟨(some 8), .new 109 (.agg [(.int .i64 0), (.int .i64 0), (.int .i64 0)]), none⟩,
  ⟨none, .st 3 (.t 7) (.t 51), none⟩,
  ⟨none, .same (some none) (.t 52) (.t 53), none⟩,
  ⟨none, .same (some (some 3)) (.t 55) (.t 56), none⟩,
  ⟨none, .st 3 (.t 8) (.t 56), none⟩]
abbrev o_config_parts_14 : List IOper := [⟨(some 57), .fa 0 (.t 7), none⟩,
  ⟨(some 58), .ld none (.t 57), none⟩,
  ⟨(some 59), .fa 0 (.t 8), none⟩,
  ⟨(some 60), .ld none (.t 59), none⟩,
  ⟨(some 61), .bin .eql (.t 58) (.t 60), none⟩,
  ⟨(some 62), .mv (.t 61), none⟩,
  ⟨(some 63), .fa 1 (.t 7), some (62, true)⟩,
  ⟨(some 64), .ld none (.t 63), some (62, true)⟩,
  ⟨(some 65), .fa 2 (.t 7), some (62, true)⟩,
  ⟨(some 66), .ld none (.t 65), some (62, true)⟩,
  ⟨(some 67), .fa 1 (.t 8), some (62, true)⟩,
  ⟨(some 68), .ld none (.t 67), some (62, true)⟩,
  ⟨(some 69), .fa 2 (.t 8), some (62, true)⟩,
  ⟨(some 70), .ld none (.t 69), some (62, true)⟩,
  ⟨(some 71), .call (.k (.c (.fn fn_config_meet [] []))) [(.t 64), (.t 66), (.t 68), (.t 70)], some (62, true)⟩,
  ⟨(some 72), .pick (.t 62) (.t 71) (.k (.c (.bool false))), none⟩]
abbrev o_config_parts_15 : List IOper := [⟨none, .st 1 (.t 2) (.k (.c (.bool false))), none⟩]
def a_config_parts_16 : IC := (.seq (.ops o_config_parts_11) (.ops o_config_parts_12))
def b_config_parts_17 : IC := (.block 3 (.seq (.ops o_config_parts_13) (.seq (.ops o_config_parts_14) (.cond (.t 72) (.seq (.ops o_config_parts_15) .ret) .skip))))
abbrev o_config_parts_18 : List IOper := [⟨none, .st 1 (.t 2) (.k (.c (.bool true))), none⟩]
def c_config_parts : IC := (.seq (.ops o_config_parts_0) (.seq (.seq (.ops o_config_parts_1) (.cond (.t 12) (.seq (.ops o_config_parts_2) .ret) .skip)) (.seq (.seq (.ops o_config_parts_3) (.block 0 (.loop b_config_parts_9))) (.seq (.seq (.ops o_config_parts_10) (.block 2 (.rangeF (.t 44) [45, 46] a_config_parts_16 b_config_parts_17))) (.seq (.ops o_config_parts_18) .ret)))))
def i_config_parts : IFn := ⟨73, c_config_parts, [(2, (some none))]⟩

-- F 72 rota/config.windows: bads 0, calls [89]
abbrev o_config_windows_0 : List IOper := [⟨(some 1), .box 28 (.t 0), none⟩,
  ⟨(some 2), .mv (.k (.c (.bool false))), none⟩]
abbrev o_config_windows_1 : List IOper := [⟨(some 7), .fa 9 (.t 1), none⟩,
  ⟨(some 8), .ld none (.t 7), none⟩,
  ⟨(some 9), .len false (.t 8), none⟩,
  ⟨(some 10), .fa 0 (.t 1), none⟩,
  ⟨(some 11), .ld none (.t 10), none⟩,
  ⟨(some 12), .bin .neq (.t 9) (.t 11), none⟩]
abbrev o_config_windows_2 : List IOper := [⟨(some 2), .mv (.k (.c (.bool false))), none⟩]
abbrev o_config_windows_3 : List IOper := [⟨(some 13), .fa 9 (.t 1), none⟩,
  ⟨(some 14), .ld none (.t 13), none⟩,
  ⟨(some 15), .len false (.t 14), none⟩,
  ⟨(some 16), .mv (.k (.c (.int .i64 0))), none⟩]
abbrev o_config_windows_4 : List IOper := [⟨(some 17), .bin .lss (.t 16) (.t 15), none⟩]
abbrev o_config_windows_5 : List IOper := [⟨(some 18), .mv (.t 16), none⟩,
  ⟨(some 19), .iaS 1 (.t 14) (.t 16), none⟩,
  ⟨(some 20), .ld none (.t 19), none⟩,
  ⟨(some 3), .mv (.t 18), none⟩,
  ⟨(some 4), .mv (.t 20), none⟩]
abbrev o_config_windows_6 : List IOper := [⟨(some 21), .mv (.t 4), none⟩,
  ⟨(some 22), .len false (.t 21), none⟩,
  ⟨(some 23), .fa 0 (.t 1), none⟩,
  ⟨(some 24), .ld none (.t 23), none⟩,
  ⟨(some 25), .bin .neq (.t 22) (.t 24), none⟩]
abbrev o_config_windows_7 : List IOper := [⟨(some 2), .mv (.k (.c (.bool false))), none⟩]
abbrev o_config_windows_8 : List IOper := [⟨(some 26), .mv (.t 4), none⟩,
  ⟨(some 27), .len false (.t 26), none⟩,
  ⟨(some 28), .mv (.k (.c (.int .i64 0))), none⟩]
abbrev o_config_windows_9 : List IOper := [⟨(some 29), .bin .lss (.t 28) (.t 27), none⟩]
abbrev o_config_windows_10 : List IOper := [⟨(some 30), .iaS 1 (.t 26) (.t 28), none⟩,
  ⟨(some 31), .ld none (.t 30), none⟩,
  ⟨(some 6), .mv (.t 31), none⟩]
abbrev o_config_windows_11 : List IOper := [⟨(some 32), .mv (.t 6), none⟩,
  ⟨(some 33), .bin .neq (.t 32) (.k (.c (.int .i64 (-1)))), none⟩,
  ⟨(some 34), .mv (.t 33), none⟩,
  ⟨(some 35), .mv (.t 6), some (34, true)⟩,
  ⟨(some 36), .fa 8 (.t 1), some (34, true)⟩,
  ⟨(some 37), .ld none (.t 36), some (34, true)⟩,
  ⟨(some 38), .len false (.t 37), some (34, true)⟩,
  ⟨(some 39), .bin .sub (.t 38) (.k (.c (.int .i64 1))), some (34, true)⟩,
  ⟨(some 40), .call (.k (.c (.fn fn_config_within [] []))) [(.t 35), (.k (.c (.int .i64 0))), (.t 39)], some (34, true)⟩,
  ⟨(some 41), .un .not (.t 40), some (34, true)⟩,
  ⟨(some 42), .mv (.t 41), some (34, true)⟩,
  ⟨(some 43), .fa 8 (.t 1), some (42, false)⟩,
  ⟨(some 44), .ld none (.t 43), some (42, false)⟩,
  ⟨(some 45), .mv (.t 6), some (42, false)⟩,
  ⟨(some 46), .iaS 3 (.t 44) (.t 45), some (42, false)⟩,
  ⟨(some 47), .fa 0 (.t 46), some (42, false)⟩,
  ⟨(some 48), .ld none (.t 47), some (42, false)⟩,
  ⟨(some 49), .mv (.t 3), some (42, false)⟩,
  ⟨(some 50), .bin .neq (.t 48) (.t 49), some (42, false)⟩,
  ⟨(some 51), .pick (.t 42) (.k (.c (.bool true))) (.t 50), some (34, true)⟩,
  ⟨(some 52), .pick (.t 34) (.t 51) (.k (.c (.bool false))), none⟩]
abbrev o_config_windows_12 : List IOper := [⟨(some 2), .mv (.k (.c (.bool false))), none⟩]
abbrev o_config_windows_13 : List IOper := [⟨(some 53), .bin .add (.t 28) (.k (.c (.int .i64 1))), none⟩,
  ⟨(some 28), .mv (.t 53), none⟩]
def b_config_windows_14 : IC := (.seq (.ops o_config_windows_9) (.seq (.cond (.t 29) .skip (.exit 2)) (.seq (.block 3 (.seq (.ops o_config_windows_10) (.seq (.ops o_config_windows_11) (.cond (.t 52) (.seq (.ops o_config_windows_12) .ret) .skip)))) (.ops o_config_windows_13))))
abbrev o_config_windows_15 : List IOper := [⟨(some 54), .bin .add (.t 16) (.k (.c (.int .i64 1))), none⟩,
  ⟨(some 16), .mv (.t 54), none⟩]
def b_config_windows_16 : IC := (.seq (.ops o_config_windows_4) (.seq (.cond (.t 17) .skip (.exit 0)) (.seq (.block 1 (.seq (.ops o_config_windows_5) (.seq (.seq (.ops o_config_windows_6) (.cond (.t 25) (.seq (.ops o_config_windows_7) .ret) .skip)) (.seq (.ops o_config_windows_8) (.block 2 (.loop b_config_windows_14)))))) (.ops o_config_windows_15))))
abbrev o_config_windows_17 : List IOper := [⟨(some 2), .mv (.k (.c (.bool true))), none⟩]
def c_config_windows : IC := (.seq (.ops o_config_windows_0) (.seq (.seq (.ops o_config_windows_1) (.cond (.t 12) (.seq (.ops o_config_windows_2) .ret) .skip)) (.seq (.seq (.ops o_config_windows_3) (.block 0 (.loop b_config_windows_16))) (.seq (.ops o_config_windows_17) .ret))))
def i_config_windows : IFn := ⟨55, c_config_windows, [(2, none)]⟩

-- F 73 rota/config.ports: bads 0, calls [89, 89, 89]
abbrev o_config_ports_0 : List IOper := [⟨(some 1), .box 28 (.t 0), none⟩,
  ⟨(some 2), .mv (.k (.c (.bool false))), none⟩]
abbrev o_config_ports_1 : List IOper := [⟨(some 7), .fa 10 (.t 1), none⟩,
  ⟨(some 8), .ld none (.t 7), none⟩,
  ⟨(some 9), .len false (.t 8), none⟩,
  ⟨(some 10), .bin .gtr (.t 9) (.k (.c (.int .i64 64))), none⟩]
abbrev o_config_ports_2 : List IOper := [⟨(some 2), .mv (.k (.c (.bool false))), none⟩]
abbrev o_config_ports_3 : List IOper := [⟨(some 11), .fa 10 (.t 1), none⟩,
  ⟨(some 12), .ld none (.t 11), none⟩,
  ⟨(some 13), .len false (.t 12), none⟩,
  ⟨(some 14), .mv (.k (.c (.int .i64 0))), none⟩]
abbrev o_config_ports_4 : List IOper := [⟨(some 15), .bin .lss (.t 14) (.t 13), none⟩]
abbrev o_config_ports_5 : List IOper := [⟨(some 16), .iaS 6 (.t 12) (.t 14), none⟩,
  ⟨(some 17), .ld (some 6) (.t 16), none⟩,
  ⟨(some 4), .new 113 (.agg (List.replicate 6 (.int .i64 0))), none⟩,
  ⟨none, .st 6 (.t 4) (.t 17), none⟩]
abbrev o_config_ports_6 : List IOper := [⟨(some 5), .mv (.k (.c (.int .i64 0))), none⟩,
  ⟨(some 6), .mv (.k (.c (.int .i64 0))), none⟩]
abbrev o_config_ports_7 : List IOper := [⟨(some 19), .fa 1 (.t 4), none⟩,
  ⟨(some 20), .ld none (.t 19), none⟩,
  ⟨(some 21), .bin .eql (.t 20) (.k (.c (.int .i64 2))), none⟩,
  ⟨(some 18), .mv (.t 21), none⟩]
abbrev o_config_ports_8 : List IOper := [⟨(some 22), .fa 4 (.t 4), none⟩,
  ⟨(some 23), .ld none (.t 22), none⟩,
  ⟨(some 24), .mn (.t 23) [(.k (.c (.int .i64 8)))], none⟩,
  ⟨(some 25), .mx (.k (.c (.int .i64 1))) [(.t 24)], none⟩,
  ⟨(some 5), .mv (.t 25), none⟩]
abbrev o_config_ports_9 : List IOper := [⟨(some 27), .fa 1 (.t 4), none⟩,
  ⟨(some 28), .ld none (.t 27), none⟩,
  ⟨(some 29), .bin .eql (.t 28) (.k (.c (.int .i64 1))), none⟩,
  ⟨(some 30), .mv (.t 29), none⟩,
  ⟨(some 31), .fa 2 (.t 4), some (30, true)⟩,
  ⟨(some 32), .ld none (.t 31), some (30, true)⟩,
  ⟨(some 33), .bin .eql (.t 32) (.k (.c (.int .i64 2))), some (30, true)⟩,
  ⟨(some 34), .pick (.t 30) (.t 33) (.k (.c (.bool false))), none⟩,
  ⟨(some 26), .mv (.t 34), none⟩]
abbrev o_config_ports_10 : List IOper := [⟨(some 35), .fa 5 (.t 4), none⟩,
  ⟨(some 36), .ld none (.t 35), none⟩,
  ⟨(some 37), .mn (.t 36) [(.k (.c (.int .i64 65535)))], none⟩,
  ⟨(some 38), .mx (.k (.c (.int .i64 1))) [(.t 37)], none⟩,
  ⟨(some 6), .mv (.t 38), none⟩]
abbrev o_config_ports_11 : List IOper := [⟨(some 40), .fa 1 (.t 4), none⟩,
  ⟨(some 41), .ld none (.t 40), none⟩,
  ⟨(some 42), .bin .neq (.t 41) (.k (.c (.int .i64 1))), none⟩,
  ⟨(some 39), .mv (.t 42), none⟩]
abbrev o_config_ports_12 : List IOper := [⟨(some 2), .mv (.k (.c (.bool false))), none⟩]
abbrev o_config_ports_13 : List IOper := [⟨(some 43), .fa 0 (.t 4), none⟩,
  ⟨(some 44), .ld none (.t 43), none⟩,
  ⟨(some 45), .fa 8 (.t 1), none⟩,
  ⟨(some 46), .ld none (.t 45), none⟩,
  ⟨(some 47), .len false (.t 46), none⟩,
  ⟨(some 48), .bin .sub (.t 47) (.k (.c (.int .i64 1))), none⟩,
  ⟨(some 49), .call (.k (.c (.fn fn_config_within [] []))) [(.t 44), (.k (.c (.int .i64 0))), (.t 48)], none⟩,
  ⟨(some 50), .un .not (.t 49), none⟩,
  ⟨(some 51), .mv (.t 50), none⟩,
  ⟨(some 52), .fa 2 (.t 4), some (51, false)⟩,
  ⟨(some 53), .ld none (.t 52), some (51, false)⟩,
  ⟨(some 54), .call (.k (.c (.fn fn_config_within [] []))) [(.t 53), (.k (.c (.int .i64 1))), (.k (.c (.int .i64 2)))], some (51, false)⟩,
  ⟨(some 55), .un .not (.t 54), some (51, false)⟩,
  ⟨(some 56), .pick (.t 51) (.k (.c (.bool true))) (.t 55), none⟩,
  ⟨(some 57), .mv (.t 56), none⟩,
  ⟨(some 58), .fa 3 (.t 4), some (57, false)⟩,
  ⟨(some 59), .ld none (.t 58), some (57, false)⟩,
  ⟨(some 60), .call (.k (.c (.fn fn_config_within [] []))) [(.t 59), (.k (.c (.int .i64 1))), (.k (.c (.int .i64 32)))], some (57, false)⟩,
  ⟨(some 61), .un .not (.t 60), some (57, false)⟩,
  ⟨(some 62), .pick (.t 57) (.k (.c (.bool true))) (.t 61), none⟩,
  ⟨(some 63), .mv (.t 62), none⟩,
  ⟨(some 64), .fa 4 (.t 4), some (63, false)⟩,
  ⟨(some 65), .ld none (.t 64), some (63, false)⟩,
  ⟨(some 66), .mv (.t 5), some (63, false)⟩,
  ⟨(some 67), .bin .neq (.t 65) (.t 66), some (63, false)⟩,
  ⟨(some 68), .pick (.t 63) (.k (.c (.bool true))) (.t 67), none⟩,
  ⟨(some 69), .mv (.t 68), none⟩,
  ⟨(some 70), .fa 5 (.t 4), some (69, false)⟩,
  ⟨(some 71), .ld none (.t 70), some (69, false)⟩,
  ⟨(some 72), .mv (.t 6), some (69, false)⟩,
  ⟨(some 73), .bin .neq (.t 71) (.t 72), some (69, false)⟩,
  ⟨(some 74), .pick (.t 69) (.k (.c (.bool true))) (.t 73), none⟩]
abbrev o_config_ports_14 : List IOper := [⟨(some 2), .mv (.k (.c (.bool false))), none⟩]
abbrev o_config_ports_15 : List IOper := [⟨(some 75), .bin .add (.t 14) (.k (.c (.int .i64 1))), none⟩,
  ⟨(some 14), .mv (.t 75), none⟩]
def b_config_ports_16 : IC := (.seq (.ops o_config_ports_4) (.seq (.cond (.t 15) .skip (.exit 0)) (.seq (.block 1 (.seq (.ops o_config_ports_5) (.seq (.ops o_config_ports_6) (.seq (.block 2 (.seq (.ops o_config_ports_7) (.cond (.t 18) (.ops o_config_ports_8) (.seq (.ops o_config_ports_9) (.cond (.t 26) (.ops o_config_ports_10) (.seq (.ops o_config_ports_11) (.cond (.t 39) (.seq (.ops o_config_ports_12) .ret) .skip))))))) (.seq (.ops o_config_ports_13) (.cond (.t 74) (.seq (.ops o_config_ports_14) .ret) .skip)))))) (.ops o_config_ports_15))))
abbrev o_config_ports_17 : List IOper := [⟨(some 2), .mv (.k (.c (.bool true))), none⟩]
def c_config_ports : IC := (.seq (.ops o_config_ports_0) (.seq (.seq (.ops o_config_ports_1) (.cond (.t 10) (.seq (.ops o_config_ports_2) .ret) .skip)) (.seq (.seq (.ops o_config_ports_3) (.block 0 (.loop b_config_ports_16))) (.seq (.ops o_config_ports_17) .ret))))
def i_config_ports : IFn := ⟨76, c_config_ports, [(2, none)]⟩

-- F 74 rota/config.links: bads 0, calls [94, 89, 94, 92, 93]
abbrev o_config_links_0 : List IOper := [⟨(some 1), .box 28 (.t 0), none⟩,
  ⟨(some 2), .new 4 (.c (.bool false)), none⟩]
abbrev o_config_links_1 : List IOper := [⟨(some 18), .fa 11 (.t 1), none⟩,
  ⟨(some 19), .ld none (.t 18), none⟩,
  ⟨(some 20), .len false (.t 19), none⟩,
  ⟨(some 21), .bin .gtr (.t 20) (.k (.c (.int .i64 64))), none⟩]
abbrev o_config_links_2 : List IOper := [⟨none, .st 1 (.t 2) (.k (.c (.bool false))), none⟩]
abbrev o_config_links_3 : List IOper := [⟨(some 22), .fa 10 (.t 1), none⟩,
  ⟨(some 23), .ld none (.t 22), none⟩,
  ⟨(some 24), .len false (.t 23), none⟩,
  ⟨(some 25), .mksl 3 1 8 [(.int .i64 0)] (.t 24) (.t 24), none⟩,
  ⟨(some 3), .mv (.t 25), none⟩]
abbrev o_config_links_4 : List IOper := [⟨(some 26), .fa 11 (.t 1), none⟩,
  ⟨(some 27), .ld none (.t 26), none⟩,
  ⟨(some 28), .len false (.t 27), none⟩,
  ⟨(some 29), .mv (.k (.c (.int .i64 0))), none⟩]
abbrev o_config_links_5 : List IOper := [⟨(some 30), .bin .lss (.t 29) (.t 28), none⟩]
abbrev o_config_links_6 : List IOper := [⟨(some 31), .iaS 3 (.t 27) (.t 29), none⟩,
  ⟨(some 32), .ld (some 3) (.t 31), none⟩,
  ⟨(some 5), .new 115 (.agg [(.int .i64 0), (.sl none 0 0 false), (.int .i64 0)]), none⟩,
  ⟨none, .st 3 (.t 5) (.t 32), none⟩]
abbrev o_config_links_7 : List IOper := [⟨(some 34), .ld (some 12) (.t 1), none⟩,
  ⟨(some 35), .fa 0 (.t 5), none⟩,
  ⟨(some 36), .ld none (.t 35), none⟩,
  ⟨(some 37), .call (.k (.c (.fn fn_config_port [] []))) [(.t 34), (.t 36)], none⟩,
  ⟨(some 33), .mv (.t 37), none⟩,
  ⟨(some 38), .ext (.t 33) 0, none⟩,
  ⟨(some 39), .ext (.t 33) 1, none⟩,
  ⟨(some 6), .new 113 (.agg (List.replicate 6 (.int .i64 0))), none⟩,
  ⟨none, .st 6 (.t 6) (.t 38), none⟩,
  ⟨(some 7), .mv (.t 39), none⟩]
abbrev o_config_links_8 : List IOper := [⟨(some 40), .mv (.t 7), none⟩,
  ⟨(some 41), .un .not (.t 40), none⟩,
  ⟨(some 42), .mv (.t 41), none⟩,
  ⟨(some 43), .fa 2 (.t 6), some (42, false)⟩,
  ⟨(some 44), .ld none (.t 43), some (42, false)⟩,
  ⟨(some 45), .bin .neq (.t 44) (.k (.c (.int .i64 1))), some (42, false)⟩,
  ⟨(some 46), .pick (.t 42) (.k (.c (.bool true))) (.t 45), none⟩,
  ⟨(some 47), .mv (.t 46), none⟩,
  ⟨(some 48), .fa 1 (.t 5), some (47, false)⟩,
  ⟨(some 49), .ld none (.t 48), some (47, false)⟩,
  ⟨(some 50), .len false (.t 49), some (47, false)⟩,
  ⟨(some 51), .bin .eql (.t 50) (.k (.c (.int .i64 0))), some (47, false)⟩,
  ⟨(some 52), .pick (.t 47) (.k (.c (.bool true))) (.t 51), none⟩,
  ⟨(some 53), .mv (.t 52), none⟩,
  ⟨(some 54), .fa 2 (.t 5), some (53, false)⟩,
  ⟨(some 55), .ld none (.t 54), some (53, false)⟩,
  ⟨(some 56), .fa 3 (.t 6), some (53, false)⟩,
  ⟨(some 57), .ld none (.t 56), some (53, false)⟩,
  ⟨(some 58), .bin .sub (.k (.c (.int .i64 63))) (.t 57), some (53, false)⟩,
  ⟨(some 59), .call (.k (.c (.fn fn_config_within [] []))) [(.t 55), (.k (.c (.int .i64 0))), (.t 58)], some (53, false)⟩,
  ⟨(some 60), .un .not (.t 59), some (53, false)⟩,
  ⟨(some 61), .pick (.t 53) (.k (.c (.bool true))) (.t 60), none⟩,
  ⟨(some 62), .mv (.t 61), none⟩,
  ⟨(some 63), .mv (.t 3), some (62, false)⟩,
  ⟨(some 64), .fa 0 (.t 5), some (62, false)⟩,
  ⟨(some 65), .ld none (.t 64), some (62, false)⟩,
  ⟨(some 66), .iaS 1 (.t 63) (.t 65), some (62, false)⟩,
  ⟨(some 67), .ld none (.t 66), some (62, false)⟩,
  ⟨(some 68), .bin .gtr (.t 67) (.k (.c (.int .i64 0))), some (62, false)⟩,
  ⟨(some 69), .pick (.t 62) (.k (.c (.bool true))) (.t 68), none⟩]
abbrev o_config_links_9 : List IOper := [⟨none, .st 1 (.t 2) (.k (.c (.bool false))), none⟩]
abbrev o_config_links_10 : List IOper := [⟨(some 70), .mv (.t 3), none⟩,
  ⟨(some 71), .fa 0 (.t 5), none⟩,
  ⟨(some 72), .ld none (.t 71), none⟩,
  ⟨(some 73), .iaS 1 (.t 70) (.t 72), none⟩,
  ⟨(some 74), .ld none (.t 73), none⟩,
  ⟨(some 75), .bin .add (.t 74) (.k (.c (.int .i64 1))), none⟩,
  ⟨(some 76), .iaS 1 (.t 70) (.t 72), none⟩,
  ⟨none, .st 1 (.t 76) (.t 75), none⟩]
abbrev o_config_links_11 : List IOper := [⟨(some 77), .fa 1 (.t 5), none⟩,
  ⟨(some 78), .ld none (.t 77), none⟩,
  ⟨(some 79), .len false (.t 78), none⟩,
  ⟨(some 80), .mv (.k (.c (.int .i64 0))), none⟩]
abbrev o_config_links_12 : List IOper := [⟨(some 81), .bin .lss (.t 80) (.t 79), none⟩]
abbrev o_config_links_13 : List IOper := [⟨(some 82), .mv (.t 80), none⟩,
  ⟨(some 83), .iaS 1 (.t 78) (.t 80), none⟩,
  ⟨(some 84), .ld none (.t 83), none⟩,
  ⟨(some 8), .mv (.t 82), none⟩,
  ⟨(some 9), .mv (.t 84), none⟩]
abbrev o_config_links_14 : List IOper := [⟨(some 86), .ld (some 12) (.t 1), none⟩,
  ⟨(some 87), .mv (.t 9), none⟩,
  ⟨(some 88), .call (.k (.c (.fn fn_config_port [] []))) [(.t 86), (.t 87)], none⟩,
  ⟨(some 85), .mv (.t 88), none⟩,
  ⟨(some 89), .ext (.t 85) 0, none⟩,
  ⟨(some 90), .ext (.t 85) 1, none⟩,
  ⟨(some 10), .new 113 (.agg (List.replicate 6 (.int .i64 0))), none⟩,
  ⟨none, .st 6 (.t 10) (.t 89), none⟩,
  ⟨(some 11), .mv (.t 90), none⟩]
abbrev o_config_links_15 : List IOper := [⟨(some 91), .mv (.t 11), none⟩,
  ⟨(some 92), .un .not (.t 91), none⟩,
  ⟨(some 93), .mv (.t 92), none⟩,
  ⟨(some 94), .fa 2 (.t 10), some (93, false)⟩,
  ⟨(some 95), .ld none (.t 94), some (93, false)⟩,
  ⟨(some 96), .bin .neq (.t 95) (.k (.c (.int .i64 2))), some (93, false)⟩,
  ⟨(some 97), .pick (.t 93) (.k (.c (.bool true))) (.t 96), none⟩,
  ⟨(some 98), .mv (.t 97), none⟩,
  ⟨(some 99), .fa 1 (.t 10), some (98, false)⟩,
  ⟨(some 100), .ld none (.t 99), some (98, false)⟩,
  ⟨(some 101), .fa 1 (.t 6), some (98, false)⟩,
  ⟨(some 102), .ld none (.t 101), some (98, false)⟩,
  ⟨(some 103), .bin .neq (.t 100) (.t 102), some (98, false)⟩,
  ⟨(some 104), .pick (.t 98) (.k (.c (.bool true))) (.t 103), none⟩,
  ⟨(some 105), .mv (.t 104), none⟩,
  ⟨(some 106), .fa 3 (.t 10), some (105, false)⟩,
  ⟨(some 107), .ld none (.t 106), some (105, false)⟩,
  ⟨(some 108), .fa 3 (.t 6), some (105, false)⟩,
  ⟨(some 109), .ld none (.t 108), some (105, false)⟩,
  ⟨(some 110), .bin .neq (.t 107) (.t 109), some (105, false)⟩,
  ⟨(some 111), .pick (.t 105) (.k (.c (.bool true))) (.t 110), none⟩,
  ⟨(some 112), .mv (.t 111), none⟩,
  ⟨(some 113), .mv (.t 3), some (112, false)⟩,
  ⟨(some 114), .mv (.t 9), some (112, false)⟩,
  ⟨(some 115), .iaS 1 (.t 113) (.t 114), some (112, false)⟩,
  ⟨(some 116), .ld none (.t 115), some (112, false)⟩,
  ⟨(some 117), .bin .gtr (.t 116) (.k (.c (.int .i64 0))), some (112, false)⟩,
  ⟨(some 118), .pick (.t 112) (.k (.c (.bool true))) (.t 117), none⟩]
abbrev o_config_links_16 : List IOper := [⟨none, .st 1 (.t 2) (.k (.c (.bool false))), none⟩]
abbrev o_config_links_17 : List IOper := [⟨(some 119), .mv (.t 3), none⟩,
  ⟨(some 120), .mv (.t 9), none⟩,
  ⟨(some 121), .iaS 1 (.t 119) (.t 120), none⟩,
  ⟨(some 122), .ld none (.t 121), none⟩,
  ⟨(some 123), .bin .add (.t 122) (.k (.c (.int .i64 1))), none⟩,
  ⟨(some 124), .iaS 1 (.t 119) (.t 120), none⟩,
  ⟨none, .st 1 (.t 124) (.t 123), none⟩]
abbrev o_config_links_18 : List IOper := [⟨(some 125), .mv (.t 8), none⟩,
  ⟨(some 126), .fa 1 (.t 5), none⟩,
  ⟨(some 127), .ld none (.t 126), none⟩,
  ⟨(some 128), .len false (.t 127), none⟩,
  ⟨(some 129), .bin .sub (.t 128) (.k (.c (.int .i64 1))), none⟩,
  ⟨(some 130), .bin .eql (.t 125) (.t 129), none⟩]
abbrev o_config_links_19 : List IOper := [⟨(some 131), .bin .add (.t 80) (.k (.c (.int .i64 1))), none⟩,
  ⟨(some 80), .mv (.t 131), none⟩]
def b_config_links_20 : IC := (.seq (.ops o_config_links_12) (.seq (.cond (.t 81) .skip (.exit 2)) (.seq (.block 3 (.seq (.ops o_config_links_13) (.seq (.ops o_config_links_14) (.seq (.seq (.ops o_config_links_15) (.cond (.t 118) (.seq (.ops o_config_links_16) .ret) .skip)) (.seq (.ops o_config_links_17) (.seq (.ops o_config_links_18) (.cond (.t 130) (.exit 1) .skip))))))) (.ops o_config_links_19))))
abbrev o_config_links_21 : List IOper := [⟨(some 132), .bin .add (.t 29) (.k (.c (.int .i64 1))), none⟩,
  ⟨(some 29), .mv (.t 132), none⟩]
def b_config_links_22 : IC := (.seq (.ops o_config_links_5) (.seq (.cond (.t 30) .skip (.exit 0)) (.seq (.block 1 (.seq (.ops o_config_links_6) (.seq (.ops o_config_links_7) (.seq (.seq (.ops o_config_links_8) (.cond (.t 69) (.seq (.ops o_config_links_9) .ret) .skip)) (.seq (.ops o_config_links_10) (.seq (.ops o_config_links_11) (.block 2 (.loop b_config_links_20)))))))) (.ops o_config_links_21))))
abbrev o_config_links_23 : List IOper := [⟨(some 133), .fa 11 (.t 1), none⟩,
  ⟨(some 134), .ld none (.t 133), none⟩,
  ⟨(some 135), .len false (.t 134), none⟩,
  ⟨(some 136), .call (.k (.c (.fn fn_config_pairs [] []))) [(.t 135)], none⟩]
abbrev o_config_links_24 : List IOper := [⟨(some 12), .mv (.t 137), none⟩]
abbrev o_config_links_25 : List IOper := [⟨(some 13), .mv (.t 138), none⟩]
abbrev o_config_links_26 : List IOper := [⟨(some 146), .mv (.t 13), none⟩,
  ⟨(some 144), .fa 11 (.t 1), none⟩,
  ⟨(some 145), .ld none (.t 144), none⟩,
  ⟨(some 147), .iaS 3 (.t 145) (.t 146), none⟩,
  ⟨(some 148), .ld (some 3) (.t 147), none⟩,
  ⟨(some 141), .mv (.t 12), none⟩,
  ⟨(some 139), .fa 11 (.t 1), none⟩,
  ⟨(some 140), .ld none (.t 139), none⟩,
  ⟨(some 142), .iaS 3 (.t 140) (.t 141), none⟩,
  ⟨(some 143), .ld (some 3) (.t 142), none⟩,
  ⟨(some 14), .new 115 (.agg [(.int .i64 0), (.sl none 0 0 false), (.int .i64 0)]), none⟩,
  ⟨(some 15), .new 115 (.agg [(.int .i64 0), (.sl none 0 0 false), (.int .i64 0)]), none⟩,
  ⟨none, .st 3 (.t 14) (.t 143), none⟩,
  ⟨none, .same (some none) (.t 144) (.t 145), none⟩,
  ⟨none, .same (some (some 3)) (.t 147) (.t 148), none⟩,
  ⟨none, .st 3 (.t 15) (.t 148), none⟩]
abbrev o_config_links_27 : List IOper := [⟨(some 157), .fa 0 (.t 15), none⟩,
  ⟨(some 158), .ld none (.t 157), none⟩,
  ⟨(some 155), .fa 10 (.t 1), none⟩,
  ⟨(some 156), .ld none (.t 155), none⟩,
  ⟨(some 159), .iaS 6 (.t 156) (.t 158), none⟩,
  ⟨(some 160), .ld (some 6) (.t 159), none⟩,
  ⟨(some 151), .fa 0 (.t 14), none⟩,
  ⟨(some 152), .ld none (.t 151), none⟩,
  ⟨(some 149), .fa 10 (.t 1), none⟩,
  ⟨(some 150), .ld none (.t 149), none⟩,
  ⟨(some 153), .iaS 6 (.t 150) (.t 152), none⟩,
  ⟨(some 154), .ld (some 6) (.t 153), none⟩,
  ⟨(some 16), .new 113 (.agg (List.replicate 6 (.int .i64 0))), none⟩,
  ⟨(some 17), .new 113 (.agg (List.replicate 6 (.int .i64 0))), none⟩,
  ⟨none, .st 6 (.t 16) (.t 154), none⟩,
  ⟨none, .same (some none) (.t 157) (.t 158), none⟩,
  ⟨none, .same (some none) (.t 155) (.t 156), none⟩,
  ⟨none, .same (some (some 6)) (.t 159) (.t 160), none⟩,
  ⟨none, .st 6 (.t 17) (.t 160), none⟩]
abbrev o_config_links_28 : List IOper := [⟨(some 161), .fa 8 (.t 1), none⟩,
  ⟨(some 162), .ld none (.t 161), none⟩,
  ⟨(some 163), .fa 0 (.t 16), none⟩,
  ⟨(some 164), .ld none (.t 163), none⟩,
  ⟨(some 165), .iaS 3 (.t 162) (.t 164), none⟩,
  ⟨(some 166), .fa 0 (.t 165), none⟩,
  ⟨(some 167), .ld none (.t 166), none⟩,
  ⟨(some 168), .fa 8 (.t 1), none⟩,
  ⟨(some 169), .ld none (.t 168), none⟩,
  ⟨(some 170), .fa 0 (.t 17), none⟩,
  ⟨(some 171), .ld none (.t 170), none⟩,
  ⟨(some 172), .iaS 3 (.t 169) (.t 171), none⟩,
  ⟨(some 173), .fa 0 (.t 172), none⟩,
  ⟨(some 174), .ld none (.t 173), none⟩,
  ⟨(some 175), .bin .eql (.t 167) (.t 174), none⟩,
  ⟨(some 176), .mv (.t 175), none⟩,
  ⟨(some 177), .fa 2 (.t 14), some (176, true)⟩,
  ⟨(some 178), .ld none (.t 177), some (176, true)⟩,
  ⟨(some 179), .fa 2 (.t 14), some (176, true)⟩,
  ⟨(some 180), .ld none (.t 179), some (176, true)⟩,
  ⟨(some 181), .bin .add (.t 180) (.k (.c (.int .i64 1))), some (176, true)⟩,
  ⟨(some 182), .fa 3 (.t 16), some (176, true)⟩,
  ⟨(some 183), .ld none (.t 182), some (176, true)⟩,
  ⟨(some 184), .bin .add (.t 181) (.t 183), some (176, true)⟩,
  ⟨(some 185), .fa 2 (.t 15), some (176, true)⟩,
  ⟨(some 186), .ld none (.t 185), some (176, true)⟩,
  ⟨(some 187), .fa 2 (.t 15), some (176, true)⟩,
  ⟨(some 188), .ld none (.t 187), some (176, true)⟩,
  ⟨(some 189), .bin .add (.t 188) (.k (.c (.int .i64 1))), some (176, true)⟩,
  ⟨(some 190), .fa 3 (.t 17), some (176, true)⟩,
  ⟨(some 191), .ld none (.t 190), some (176, true)⟩,
  ⟨(some 192), .bin .add (.t 189) (.t 191), some (176, true)⟩,
  ⟨(some 193), .call (.k (.c (.fn fn_config_meet [] []))) [(.t 178), (.t 184), (.t 186), (.t 192)], some (176, true)⟩,
  ⟨(some 194), .pick (.t 176) (.t 193) (.k (.c (.bool false))), none⟩]
abbrev o_config_links_29 : List IOper := [⟨none, .st 1 (.t 2) (.k (.c (.bool false))), none⟩]
def a_config_links_30 : IC := (.seq (.ops o_config_links_24) (.ops o_config_links_25))
def b_config_links_31 : IC := (.block 5 (.seq (.ops o_config_links_26) (.seq (.ops o_config_links_27) (.seq (.ops o_config_links_28) (.cond (.t 194) (.seq (.ops o_config_links_29) .ret) .skip)))))
abbrev o_config_links_32 : List IOper := [⟨none, .st 1 (.t 2) (.k (.c (.bool true))), none⟩]
def c_config_links : IC := (.seq (.ops o_config_links_0) (.seq .skip (.seq (.seq (.ops o_config_links_1) (.cond (.t 21) (.seq (.ops o_config_links_2) .ret) .skip)) (.seq (.ops o_config_links_3) (.seq .skip (.seq (.seq (.ops o_config_links_4) (.block 0 (.loop b_config_links_22))) (.seq (.seq (.ops o_config_links_23) (.block 4 (.rangeF (.t 136) [137, 138] a_config_links_30 b_config_links_31))) (.seq (.ops o_config_links_32) .ret))))))))
def i_config_links : IFn := ⟨195, c_config_links, [(2, (some none))]⟩

-- F 75 rota/rotaref02.count: bads 0, calls []
abbrev o_rotaref02_count_0 : List IOper := [⟨(some 4), .mv (.k (.c (.int .i64 0))), none⟩]
abbrev o_rotaref02_count_1 : List IOper := [⟨(some 5), .mv (.k (.c (.int .i64 0))), none⟩]
abbrev o_rotaref02_count_2 : List IOper := [⟨(some 6), .mv (.k (.c (.int .i64 0))), none⟩]
abbrev o_rotaref02_count_3 : List IOper := [⟨(some 7), .mv (.t 6), none⟩,
  ⟨(some 8), .mv (.t 0), none⟩,
  ⟨(some 9), .len false (.t 8), none⟩,
  ⟨(some 10), .bin .lss (.t 7) (.t 9), none⟩]
abbrev o_rotaref02_count_4 : List IOper := [⟨(some 13), .mv (.t 0), none⟩,
  ⟨(some 14), .mv (.t 6), none⟩,
  ⟨(some 15), .iaS 1 (.t 13) (.t 14), none⟩,
  ⟨(some 16), .ld none (.t 15), none⟩,
  ⟨(some 17), .mv (.t 1), none⟩,
  ⟨(some 18), .bin .eql (.t 16) (.t 17), none⟩]
abbrev o_rotaref02_count_5 : List IOper := [⟨(some 19), .mv (.t 5), none⟩,
  ⟨(some 20), .bin .add (.t 19) (.k (.c (.int .i64 1))), none⟩,
  ⟨(some 5), .mv (.t 20), none⟩]
abbrev o_rotaref02_count_6 : List IOper := [⟨(some 11), .mv (.t 6), none⟩,
  ⟨(some 12), .bin .add (.t 11) (.k (.c (.int .i64 1))), none⟩,
  ⟨(some 6), .mv (.t 12), none⟩]
def b_rotaref02_count_7 : IC := (.seq (.seq (.ops o_rotaref02_count_3) (.cond (.t 10) .skip (.exit 0))) (.seq (.block 1 (.seq (.ops o_rotaref02_count_4) (.cond (.t 18) (.ops o_rotaref02_count_5) .skip))) (.ops o_rotaref02_count_6)))
abbrev o_rotaref02_count_8 : List IOper := [⟨(some 21), .mv (.t 5), none⟩,
  ⟨(some 4), .mv (.t 21), none⟩]
def c_rotaref02_count : IC := (.seq (.ops o_rotaref02_count_0) (.seq (.ops o_rotaref02_count_1) (.seq (.seq (.ops o_rotaref02_count_2) (.block 0 (.loop b_rotaref02_count_7))) (.seq (.ops o_rotaref02_count_8) .ret))))
def i_rotaref02_count : IFn := ⟨22, c_rotaref02_count, [(4, none)]⟩

-- F 76 rota/rotaref02.Precision: bads 0, calls []
abbrev o_rotaref02_Precision_0 : List IOper := [⟨(some 1), .box 28 (.t 0), none⟩,
  ⟨(some 2), .mv (.k (.c (.int .i64 0))), none⟩]
abbrev o_rotaref02_Precision_1 : List IOper := [⟨(some 3), .fa 2 (.t 1), none⟩,
  ⟨(some 4), .ld none (.t 3), none⟩,
  ⟨(some 5), .fa 3 (.t 1), none⟩,
  ⟨(some 6), .ld none (.t 5), none⟩,
  ⟨(some 7), .bin .add (.t 4) (.t 6), none⟩,
  ⟨(some 8), .bin .mul (.k (.c (.int .i64 2))) (.t 7), none⟩,
  ⟨(some 9), .bin .add (.t 8) (.k (.c (.int .i64 1))), none⟩,
  ⟨(some 2), .mv (.t 9), none⟩]
def c_rotaref02_Precision : IC := (.seq (.ops o_rotaref02_Precision_0) (.seq (.ops o_rotaref02_Precision_1) .ret))
def i_rotaref02_Precision : IFn := ⟨10, c_rotaref02_Precision, [(2, none)]⟩

-- F 77 rota/rotaref02.meet: bads 0, calls []
abbrev o_rotaref02_meet_0 : List IOper := [⟨(some 8), .mv (.k (.c (.bool false))), none⟩]
abbrev o_rotaref02_meet_1 : List IOper := [⟨(some 10), .mv (.t 0), none⟩,
  ⟨(some 9), .mv (.t 10), none⟩]
abbrev o_rotaref02_meet_2 : List IOper := [⟨(some 11), .mv (.t 9), none⟩,
  ⟨(some 12), .mv (.t 1), none⟩,
  ⟨(some 13), .bin .lss (.t 11) (.t 12), none⟩]
abbrev o_rotaref02_meet_3 : List IOper := [⟨(some 16), .mv (.t 9), none⟩,
  ⟨(some 17), .mv (.t 2), none⟩,
  ⟨(some 18), .bin .geq (.t 16) (.t 17), none⟩,
  ⟨(some 19), .mv (.t 18), none⟩,
  ⟨(some 20), .mv (.t 9), some (19, true)⟩,
  ⟨(some 21), .mv (.t 3), some (19, true)⟩,
  ⟨(some 22), .bin .lss (.t 20) (.t 21), some (19, true)⟩,
  ⟨(some 23), .pick (.t 19) (.t 22) (.k (.c (.bool false))), none⟩]
abbrev o_rotaref02_meet_4 : List IOper := [⟨(some 8), .mv (.k (.c (.bool true))), none⟩]
abbrev o_rotaref02_meet_5 : List IOper := [⟨(some 14), .mv (.t 9), none⟩,
  ⟨(some 15), .bin .add (.t 14) (.k (.c (.int .i64 1))), none⟩,
  ⟨(some 9), .mv (.t 15), none⟩]
def b_rotaref02_meet_6 : IC := (.seq (.seq (.ops o_rotaref02_meet_2) (.cond (.t 13) .skip (.exit 0))) (.seq (.block 1 (.seq (.ops o_rotaref02_meet_3) (.cond (.t 23) (.seq (.ops o_rotaref02_meet_4) .ret) .skip))) (.ops o_rotaref02_meet_5)))
abbrev o_rotaref02_meet_7 : List IOper := [⟨(some 8), .mv (.k (.c (.bool false))), none⟩]
def c_rotaref02_meet : IC := (.seq (.ops o_rotaref02_meet_0) (.seq (.seq (.ops o_rotaref02_meet_1) (.block 0 (.loop b_rotaref02_meet_6))) (.seq (.ops o_rotaref02_meet_7) .ret)))
def i_rotaref02_meet : IFn := ⟨24, c_rotaref02_meet, [(8, none)]⟩

-- F 78 rota/rotaref02.Alone: bads 0, calls []
abbrev o_rotaref02_Alone_0 : List IOper := [⟨(some 1), .box 113 (.t 0), none⟩,
  ⟨(some 2), .mv (.k (.c (.bool false))), none⟩]
abbrev o_rotaref02_Alone_1 : List IOper := [⟨(some 3), .fa 1 (.t 1), none⟩,
  ⟨(some 4), .ld none (.t 3), none⟩,
  ⟨(some 5), .bin .lss (.t 4) (.k (.c (.int .i64 1))), none⟩,
  ⟨(some 6), .mv (.t 5), none⟩,
  ⟨(some 7), .fa 1 (.t 1), some (6, false)⟩,
  ⟨(some 8), .ld none (.t 7), some (6, false)⟩,
  ⟨(some 9), .bin .gtr (.t 8) (.k (.c (.int .i64 2))), some (6, false)⟩,
  ⟨(some 10), .pick (.t 6) (.k (.c (.bool true))) (.t 9), none⟩,
  ⟨(some 11), .mv (.t 10), none⟩,
  ⟨(some 12), .fa 2 (.t 1), some (11, false)⟩,
  ⟨(some 13), .ld none (.t 12), some (11, false)⟩,
  ⟨(some 14), .bin .lss (.t 13) (.k (.c (.int .i64 1))), some (11, false)⟩,
  ⟨(some 15), .pick (.t 11) (.k (.c (.bool true))) (.t 14), none⟩,
  ⟨(some 16), .mv (.t 15), none⟩,
  ⟨(some 17), .fa 2 (.t 1), some (16, false)⟩,
  ⟨(some 18), .ld none (.t 17), some (16, false)⟩,
  ⟨(some 19), .bin .gtr (.t 18) (.k (.c (.int .i64 2))), some (16, false)⟩,
  ⟨(some 20), .pick (.t 16) (.k (.c (.bool true))) (.t 19), none⟩,
  ⟨(some 21), .mv (.t 20), none⟩,
  ⟨(some 22), .fa 3 (.t 1), some (21, false)⟩,
  ⟨(some 23), .ld none (.t 22), some (21, false)⟩,
  ⟨(some 24), .bin .lss (.t 23) (.k (.c (.int .i64 1))), some (21, false)⟩,
  ⟨(some 25), .pick (.t 21) (.k (.c (.bool true))) (.t 24), none⟩,
  ⟨(some 26), .mv (.t 25), none⟩,
  ⟨(some 27), .fa 3 (.t 1), some (26, false)⟩,
  ⟨(some 28), .ld none (.t 27), some (26, false)⟩,
  ⟨(some 29), .bin .gtr (.t 28) (.k (.c (.int .i64 32))), some (26, false)⟩,
  ⟨(some 30), .pick (.t 26) (.k (.c (.bool true))) (.t 29), none⟩]
abbrev o_rotaref02_Alone_2 : List IOper := [⟨(some 2), .mv (.k (.c (.bool false))), none⟩]
abbrev o_rotaref02_Alone_3 : List IOper := [⟨(some 31), .fa 1 (.t 1), none⟩,
  ⟨(some 32), .ld none (.t 31), none⟩,
  ⟨(some 33), .bin .eql (.t 32) (.k (.c (.int .i64 2))), none⟩]
abbrev o_rotaref02_Alone_4 : List IOper := [⟨(some 34), .fa 4 (.t 1), none⟩,
  ⟨(some 35), .ld none (.t 34), none⟩,
  ⟨(some 36), .bin .geq (.t 35) (.k (.c (.int .i64 1))), none⟩,
  ⟨(some 37), .mv (.t 36), none⟩,
  ⟨(some 38), .fa 4 (.t 1), some (37, true)⟩,
  ⟨(some 39), .ld none (.t 38), some (37, true)⟩,
  ⟨(some 40), .bin .leq (.t 39) (.k (.c (.int .i64 8))), some (37, true)⟩,
  ⟨(some 41), .pick (.t 37) (.t 40) (.k (.c (.bool false))), none⟩,
  ⟨(some 42), .mv (.t 41), none⟩,
  ⟨(some 43), .fa 5 (.t 1), some (42, true)⟩,
  ⟨(some 44), .ld none (.t 43), some (42, true)⟩,
  ⟨(some 45), .bin .eql (.t 44) (.k (.c (.int .i64 0))), some (42, true)⟩,
  ⟨(some 46), .pick (.t 42) (.t 45) (.k (.c (.bool false))), none⟩,
  ⟨(some 2), .mv (.t 46), none⟩]
abbrev o_rotaref02_Alone_5 : List IOper := [⟨(some 47), .fa 2 (.t 1), none⟩,
  ⟨(some 48), .ld none (.t 47), none⟩,
  ⟨(some 49), .bin .eql (.t 48) (.k (.c (.int .i64 2))), none⟩]
abbrev o_rotaref02_Alone_6 : List IOper := [⟨(some 50), .fa 4 (.t 1), none⟩,
  ⟨(some 51), .ld none (.t 50), none⟩,
  ⟨(some 52), .bin .eql (.t 51) (.k (.c (.int .i64 0))), none⟩,
  ⟨(some 53), .mv (.t 52), none⟩,
  ⟨(some 54), .fa 5 (.t 1), some (53, true)⟩,
  ⟨(some 55), .ld none (.t 54), some (53, true)⟩,
  ⟨(some 56), .bin .geq (.t 55) (.k (.c (.int .i64 1))), some (53, true)⟩,
  ⟨(some 57), .pick (.t 53) (.t 56) (.k (.c (.bool false))), none⟩,
  ⟨(some 58), .mv (.t 57), none⟩,
  ⟨(some 59), .fa 5 (.t 1), some (58, true)⟩,
  ⟨(some 60), .ld none (.t 59), some (58, true)⟩,
  ⟨(some 61), .bin .leq (.t 60) (.k (.c (.int .i64 65535))), some (58, true)⟩,
  ⟨(some 62), .pick (.t 58) (.t 61) (.k (.c (.bool false))), none⟩,
  ⟨(some 2), .mv (.t 62), none⟩]
abbrev o_rotaref02_Alone_7 : List IOper := [⟨(some 63), .fa 4 (.t 1), none⟩,
  ⟨(some 64), .ld none (.t 63), none⟩,
  ⟨(some 65), .bin .eql (.t 64) (.k (.c (.int .i64 0))), none⟩,
  ⟨(some 66), .mv (.t 65), none⟩,
  ⟨(some 67), .fa 5 (.t 1), some (66, true)⟩,
  ⟨(some 68), .ld none (.t 67), some (66, true)⟩,
  ⟨(some 69), .bin .eql (.t 68) (.k (.c (.int .i64 0))), some (66, true)⟩,
  ⟨(some 70), .pick (.t 66) (.t 69) (.k (.c (.bool false))), none⟩,
  ⟨(some 2), .mv (.t 70), none⟩]
def c_rotaref02_Alone : IC := (.seq (.ops o_rotaref02_Alone_0) (.seq (.seq (.ops o_rotaref02_Alone_1) (.cond (.t 30) (.seq (.ops o_rotaref02_Alone_2) .ret) .skip)) (.seq (.seq (.ops o_rotaref02_Alone_3) (.cond (.t 33) (.seq (.ops o_rotaref02_Alone_4) .ret) .skip)) (.seq (.seq (.ops o_rotaref02_Alone_5) (.cond (.t 49) (.seq (.ops o_rotaref02_Alone_6) .ret) .skip)) (.seq (.ops o_rotaref02_Alone_7) .ret)))))
def i_rotaref02_Alone : IFn := ⟨71, c_rotaref02_Alone, [(2, none)]⟩

-- F 79 rota/rotaref02.is: bads 0, calls []
abbrev o_rotaref02_is_0 : List IOper := [⟨(some 2), .box 28 (.t 0), none⟩,
  ⟨(some 4), .mv (.k (.c (.bool false))), none⟩]
abbrev o_rotaref02_is_1 : List IOper := [⟨(some 5), .mv (.t 1), none⟩,
  ⟨(some 6), .bin .geq (.t 5) (.k (.c (.int .i64 0))), none⟩,
  ⟨(some 7), .mv (.t 6), none⟩,
  ⟨(some 8), .mv (.t 1), some (7, true)⟩,
  ⟨(some 9), .fa 10 (.t 2), some (7, true)⟩,
  ⟨(some 10), .ld none (.t 9), some (7, true)⟩,
  ⟨(some 11), .len false (.t 10), some (7, true)⟩,
  ⟨(some 12), .bin .lss (.t 8) (.t 11), some (7, true)⟩,
  ⟨(some 13), .pick (.t 7) (.t 12) (.k (.c (.bool false))), none⟩,
  ⟨(some 4), .mv (.t 13), none⟩]
def c_rotaref02_is : IC := (.seq (.ops o_rotaref02_is_0) (.seq (.ops o_rotaref02_is_1) .ret))
def i_rotaref02_is : IFn := ⟨14, c_rotaref02_is, [(4, none)]⟩

-- F 80 (*rota/rotaref09.Member).nobody: bads 0, calls []
abbrev o_rotaref09_Member_nobody_0 : List IOper := [⟨(some 2), .mv (.t 0), none⟩,
  ⟨(some 3), .mv (.t 0), none⟩,
  ⟨(some 4), .nilck (.t 3), none⟩,
  ⟨(some 5), .fa 0 (.t 4), none⟩,
  ⟨(some 6), .fa 0 (.t 5), none⟩,
  ⟨(some 7), .ld none (.t 6), none⟩,
  ⟨(some 8), .mksl 4 1 1 [(.bool false)] (.t 7) (.t 7), none⟩,
  ⟨(some 9), .nilck (.t 2), none⟩,
  ⟨(some 10), .fa 15 (.t 9), none⟩,
  ⟨none, .st 1 (.t 10) (.t 8), none⟩]
def c_rotaref09_Member_nobody : IC := (.ops o_rotaref09_Member_nobody_0)
def i_rotaref09_Member_nobody : IFn := ⟨11, c_rotaref09_Member_nobody, []⟩

-- F 81 rota/rotaref03.Decode: bads 0, calls [83, 85]
abbrev o_rotaref03_Decode_0 : List IOper := [⟨(some 2), .new 74 (.agg (List.replicate 2 (.int .i64 0) ++ [(.int .u16 0)] ++ List.replicate 64 (.int .u8 0))), none⟩,
  ⟨(some 3), .mv (.k (.c (.int .i64 0))), none⟩]
abbrev o_rotaref03_Decode_1 : List IOper := [⟨(some 7), .mv (.t 0), none⟩,
  ⟨(some 8), .call (.k (.c (.fn fn_rotaref03_told [] []))) [(.t 7)], none⟩,
  ⟨(some 6), .mv (.t 8), none⟩,
  ⟨(some 9), .ext (.t 6) 0, none⟩,
  ⟨(some 10), .ext (.t 6) 1, none⟩,
  ⟨(some 4), .new 74 (.agg (List.replicate 2 (.int .i64 0) ++ [(.int .u16 0)] ++ List.replicate 64 (.int .u8 0))), none⟩,
  ⟨none, .st 67 (.t 4) (.t 9), none⟩,
  ⟨(some 5), .mv (.t 10), none⟩]
abbrev o_rotaref03_Decode_2 : List IOper := [⟨(some 11), .mv (.t 5), none⟩,
  ⟨(some 12), .un .not (.t 11), none⟩]
abbrev o_rotaref03_Decode_3 : List IOper := [⟨(some 13), .build (List.replicate 2 (.int .i64 0) ++ [(.int .u16 0)] ++ List.replicate 64 (.int .u8 0)) [], none⟩,
  ⟨none, .st 67 (.t 2) (.t 13), none⟩,
  ⟨(some 3), .mv (.k (.c (.int .i64 30))), none⟩]
abbrev o_rotaref03_Decode_4 : List IOper := [⟨(some 14), .mv (.t 0), none⟩,
  ⟨(some 15), .mv (.t 0), none⟩,
  ⟨(some 16), .slS 1 (.t 15) none (some (.k (.c (.int .i64 71)))) none, none⟩,
  ⟨(some 17), .call (.k (.c (.fn fn_rotaref03_sealed [] []))) [(.t 14), (.t 16)], none⟩,
  ⟨(some 18), .un .not (.t 17), none⟩]
abbrev o_rotaref03_Decode_5 : List IOper := [⟨(some 19), .build (List.replicate 2 (.int .i64 0) ++ [(.int .u16 0)] ++ List.replicate 64 (.int .u8 0)) [], none⟩,
  ⟨none, .st 67 (.t 2) (.t 19), none⟩,
  ⟨(some 3), .mv (.k (.c (.int .i64 31))), none⟩]
abbrev o_rotaref03_Decode_6 : List IOper := [⟨(some 20), .ld (some 67) (.t 4), none⟩,
  ⟨none, .st 67 (.t 2) (.t 20), none⟩,
  ⟨(some 3), .mv (.k (.c (.int .i64 0))), none⟩]
def c_rotaref03_Decode : IC := (.seq (.ops o_rotaref03_Decode_0) (.seq (.ops o_rotaref03_Decode_1) (.seq (.seq (.ops o_rotaref03_Decode_2) (.cond (.t 12) (.seq (.ops o_rotaref03_Decode_3) .ret) .skip)) (.seq (.seq (.ops o_rotaref03_Decode_4) (.cond (.t 18) (.seq (.ops o_rotaref03_Decode_5) .ret) .skip)) (.seq (.ops o_rotaref03_Decode_6) .ret)))))
def i_rotaref03_Decode : IFn := ⟨21, c_rotaref03_Decode, [(2, (some (some 67))), (3, none)]⟩

-- F 82 rota/rotaref09.Parted: bads 0, calls []
abbrev o_rotaref09_Parted_0 : List IOper := [⟨(some 4), .mv (.k (.c (.sl none 0 0 false))), none⟩,
  ⟨(some 5), .mv (.k (.c (.bool false))), none⟩]
abbrev o_rotaref09_Parted_1 : List IOper := [⟨(some 6), .mv (.k (.c (.sl none 0 0 false))), none⟩]
abbrev o_rotaref09_Parted_2 : List IOper := [⟨(some 7), .mv (.k (.c (.int .i64 0))), none⟩]
abbrev o_rotaref09_Parted_3 : List IOper := [⟨(some 8), .mv (.t 7), none⟩,
  ⟨(some 9), .mv (.t 1), none⟩,
  ⟨(some 10), .bin .lss (.t 8) (.t 9), none⟩]
abbrev o_rotaref09_Parted_4 : List IOper := [⟨(some 13), .mv (.t 6), none⟩,
  ⟨(some 14), .mv (.t 0), none⟩,
  ⟨(some 15), .bin .rem (.t 14) (.k (.c (.int .u16 2))), none⟩,
  ⟨(some 16), .bin .eql (.t 15) (.k (.c (.int .u16 1))), none⟩,
  ⟨(some 17), .bsl 4 1 [(.bool false)] [(0, 1, (.t 16))], none⟩,
  ⟨(some 18), .app 4 1 1 (.t 13) (.t 17), none⟩,
  ⟨(some 6), .mv (.t 18), none⟩]
abbrev o_rotaref09_Parted_5 : List IOper := [⟨(some 19), .mv (.t 0), none⟩,
  ⟨(some 20), .bin .quo (.t 19) (.k (.c (.int .u16 2))), none⟩,
  ⟨(some 0), .mv (.t 20), none⟩]
abbrev o_rotaref09_Parted_6 : List IOper := [⟨(some 11), .mv (.t 7), none⟩,
  ⟨(some 12), .bin .add (.t 11) (.k (.c (.int .i64 1))), none⟩,
  ⟨(some 7), .mv (.t 12), none⟩]
def b_rotaref09_Parted_7 : IC := (.seq (.seq (.ops o_rotaref09_Parted_3) (.cond (.t 10) .skip (.exit 0))) (.seq (.block 1 (.seq (.ops o_rotaref09_Parted_4) (.ops o_rotaref09_Parted_5))) (.ops o_rotaref09_Parted_6)))
abbrev o_rotaref09_Parted_8 : List IOper := [⟨(some 21), .mv (.t 6), none⟩,
  ⟨(some 22), .mv (.t 0), none⟩,
  ⟨(some 23), .bin .eql (.t 22) (.k (.c (.int .u16 0))), none⟩,
  ⟨(some 4), .mv (.t 21), none⟩,
  ⟨(some 5), .mv (.t 23), none⟩]
def c_rotaref09_Parted : IC := (.seq (.ops o_rotaref09_Parted_0) (.seq (.ops o_rotaref09_Parted_1) (.seq (.seq (.ops o_rotaref09_Parted_2) (.block 0 (.loop b_rotaref09_Parted_7))) (.seq (.ops o_rotaref09_Parted_8) .ret))))
def i_rotaref09_Parted : IFn := ⟨24, c_rotaref09_Parted, [(4, none), (5, none)]⟩

-- F 83 rota/rotaref03.told: bads 0, calls []
abbrev o_rotaref03_told_0 : List IOper := [⟨(some 2), .new 74 (.agg (List.replicate 2 (.int .i64 0) ++ [(.int .u16 0)] ++ List.replicate 64 (.int .u8 0))), none⟩,
  ⟨(some 3), .mv (.k (.c (.bool false))), none⟩]
abbrev o_rotaref03_told_1 : List IOper := [⟨(some 6), .mv (.t 0), none⟩,
  ⟨(some 7), .len false (.t 6), none⟩,
  ⟨(some 8), .bin .neq (.t 7) (.k (.c (.int .i64 75))), none⟩,
  ⟨(some 9), .mv (.t 8), none⟩,
  ⟨(some 10), .mv (.t 0), some (9, false)⟩,
  ⟨(some 11), .iaS 1 (.t 10) (.k (.c (.int .i64 6))), some (9, false)⟩,
  ⟨(some 12), .ld none (.t 11), some (9, false)⟩,
  ⟨(some 13), .bin .gtr (.t 12) (.k (.c (.int .u8 15))), some (9, false)⟩,
  ⟨(some 14), .pick (.t 9) (.k (.c (.bool true))) (.t 13), none⟩,
  ⟨(some 15), .mv (.t 14), none⟩,
  ⟨(some 16), .mv (.t 0), some (15, false)⟩,
  ⟨(some 17), .iaS 1 (.t 16) (.k (.c (.int .i64 0))), some (15, false)⟩,
  ⟨(some 18), .ld none (.t 17), some (15, false)⟩,
  ⟨(some 19), .bin .gtr (.t 18) (.k (.c (.int .u8 127))), some (15, false)⟩,
  ⟨(some 20), .pick (.t 15) (.k (.c (.bool true))) (.t 19), none⟩]
abbrev o_rotaref03_told_2 : List IOper := [⟨(some 21), .build (List.replicate 2 (.int .i64 0) ++ [(.int .u16 0)] ++ List.replicate 64 (.int .u8 0)) [], none⟩,
  ⟨none, .st 67 (.t 2) (.t 21), none⟩,
  ⟨(some 3), .mv (.k (.c (.bool false))), none⟩]
abbrev o_rotaref03_told_3 : List IOper := [⟨(some 22), .mv (.t 0), none⟩,
  ⟨(some 23), .iaS 1 (.t 22) (.k (.c (.int .i64 6))), none⟩,
  ⟨(some 24), .ld none (.t 23), none⟩,
  ⟨(some 25), .cv .i64 (.t 24), none⟩,
  ⟨(some 26), .build (List.replicate 2 (.int .i64 0) ++ [(.int .u16 0)] ++ List.replicate 64 (.int .u8 0)) [(0, 1, (.t 25))], none⟩,
  ⟨(some 4), .new 74 (.agg (List.replicate 2 (.int .i64 0) ++ [(.int .u16 0)] ++ List.replicate 64 (.int .u8 0))), none⟩,
  ⟨none, .st 67 (.t 4) (.t 26), none⟩]
abbrev o_rotaref03_told_4 : List IOper := [⟨(some 27), .mv (.t 0), none⟩,
  ⟨(some 28), .iaS 1 (.t 27) (.k (.c (.int .i64 0))), none⟩,
  ⟨(some 29), .ld none (.t 28), none⟩,
  ⟨(some 30), .cv .i64 (.t 29), none⟩,
  ⟨(some 31), .bin .mul (.t 30) (.k (.c (.int .i64 256))), none⟩,
  ⟨(some 32), .mv (.t 0), none⟩,
  ⟨(some 33), .iaS 1 (.t 32) (.k (.c (.int .i64 1))), none⟩,
  ⟨(some 34), .ld none (.t 33), none⟩,
  ⟨(some 35), .cv .i64 (.t 34), none⟩,
  ⟨(some 36), .bin .add (.t 31) (.t 35), none⟩,
  ⟨(some 37), .bin .mul (.t 36) (.k (.c (.int .i64 256))), none⟩,
  ⟨(some 38), .mv (.t 0), none⟩,
  ⟨(some 39), .iaS 1 (.t 38) (.k (.c (.int .i64 2))), none⟩,
  ⟨(some 40), .ld none (.t 39), none⟩,
  ⟨(some 41), .cv .i64 (.t 40), none⟩,
  ⟨(some 42), .bin .add (.t 37) (.t 41), none⟩,
  ⟨(some 43), .bin .mul (.t 42) (.k (.c (.int .i64 256))), none⟩,
  ⟨(some 44), .mv (.t 0), none⟩,
  ⟨(some 45), .iaS 1 (.t 44) (.k (.c (.int .i64 3))), none⟩,
  ⟨(some 46), .ld none (.t 45), none⟩,
  ⟨(some 47), .cv .i64 (.t 46), none⟩,
  ⟨(some 48), .bin .add (.t 43) (.t 47), none⟩,
  ⟨(some 49), .fa 1 (.t 4), none⟩,
  ⟨(some 50), .fa 0 (.t 49), none⟩,
  ⟨none, .st 1 (.t 50) (.t 48), none⟩]
abbrev o_rotaref03_told_5 : List IOper := [⟨(some 51), .mv (.t 0), none⟩,
  ⟨(some 52), .iaS 1 (.t 51) (.k (.c (.int .i64 4))), none⟩,
  ⟨(some 53), .ld none (.t 52), none⟩,
  ⟨(some 54), .cv .u16 (.t 53), none⟩,
  ⟨(some 55), .bin .mul (.t 54) (.k (.c (.int .u16 256))), none⟩,
  ⟨(some 56), .mv (.t 0), none⟩,
  ⟨(some 57), .iaS 1 (.t 56) (.k (.c (.int .i64 5))), none⟩,
  ⟨(some 58), .ld none (.t 57), none⟩,
  ⟨(some 59), .cv .u16 (.t 58), none⟩,
  ⟨(some 60), .bin .add (.t 55) (.t 59), none⟩,
  ⟨(some 61), .fa 1 (.t 4), none⟩,
  ⟨(some 62), .fa 1 (.t 61), none⟩,
  ⟨none, .st 1 (.t 62) (.t 60), none⟩]
abbrev o_rotaref03_told_6 : List IOper := [⟨(some 5), .mv (.k (.c (.int .i64 0))), none⟩]
abbrev o_rotaref03_told_7 : List IOper := [⟨(some 63), .mv (.t 5), none⟩,
  ⟨(some 64), .bin .lss (.t 63) (.k (.c (.int .i64 64))), none⟩]
abbrev o_rotaref03_told_8 : List IOper := [⟨(some 67), .mv (.t 5), none⟩,
  ⟨(some 68), .mv (.t 0), none⟩,
  ⟨(some 69), .mv (.t 5), none⟩,
  ⟨(some 70), .bin .add (.k (.c (.int .i64 7))) (.t 69), none⟩,
  ⟨(some 71), .iaS 1 (.t 68) (.t 70), none⟩,
  ⟨(some 72), .ld none (.t 71), none⟩,
  ⟨(some 73), .fa 3 (.t 4), none⟩,
  ⟨(some 74), .iaA 64 1 (.t 73) (.t 67), none⟩,
  ⟨none, .st 1 (.t 74) (.t 72), none⟩]
abbrev o_rotaref03_told_9 : List IOper := [⟨(some 65), .mv (.t 5), none⟩,
  ⟨(some 66), .bin .add (.t 65) (.k (.c (.int .i64 1))), none⟩,
  ⟨(some 5), .mv (.t 66), none⟩]
def b_rotaref03_told_10 : IC := (.seq (.seq (.ops o_rotaref03_told_7) (.cond (.t 64) .skip (.exit 0))) (.seq (.block 1 (.ops o_rotaref03_told_8)) (.ops o_rotaref03_told_9)))
abbrev o_rotaref03_told_11 : List IOper := [⟨(some 75), .ld (some 67) (.t 4), none⟩,
  ⟨none, .st 67 (.t 2) (.t 75), none⟩,
  ⟨(some 3), .mv (.k (.c (.bool true))), none⟩]
def c_rotaref03_told : IC := (.seq (.ops o_rotaref03_told_0) (.seq (.seq (.ops o_rotaref03_told_1) (.cond (.t 20) (.seq (.ops o_rotaref03_told_2) .ret) .skip)) (.seq (.ops o_rotaref03_told_3) (.seq (.ops o_rotaref03_told_4) (.seq (.ops o_rotaref03_told_5) (.seq (.seq (.ops o_rotaref03_told_6) (.block 0 (.loop b_rotaref03_told_10))) (.seq (.ops o_rotaref03_told_11) .ret)))))))
def i_rotaref03_told : IFn := ⟨76, c_rotaref03_told, [(2, (some (some 67))), (3, none)]⟩

-- F 84 rota/rotaref03.State: bads 0, calls []
abbrev o_rotaref03_State_0 : List IOper := [⟨(some 1), .box 69 (.t 0), none⟩,
  ⟨(some 2), .mv (.k (.c (.sl none 0 0 false))), none⟩]
abbrev o_rotaref03_State_1 : List IOper := [⟨(some 4), .fa 0 (.t 1), none⟩,
  ⟨(some 5), .ld none (.t 4), none⟩,
  ⟨(some 6), .cv .u32 (.t 5), none⟩,
  ⟨(some 3), .mv (.t 6), none⟩]
abbrev o_rotaref03_State_2 : List IOper := [⟨(some 7), .mv (.t 3), none⟩,
  ⟨(some 8), .bin .quo (.t 7) (.k (.c (.int .u32 16777216))), none⟩,
  ⟨(some 9), .cv .u8 (.t 8), none⟩,
  ⟨(some 10), .mv (.t 3), none⟩,
  ⟨(some 11), .bin .quo (.t 10) (.k (.c (.int .u32 65536))), none⟩,
  ⟨(some 12), .bin .rem (.t 11) (.k (.c (.int .u32 256))), none⟩,
  ⟨(some 13), .cv .u8 (.t 12), none⟩,
  ⟨(some 14), .mv (.t 3), none⟩,
  ⟨(some 15), .bin .quo (.t 14) (.k (.c (.int .u32 256))), none⟩,
  ⟨(some 16), .bin .rem (.t 15) (.k (.c (.int .u32 256))), none⟩,
  ⟨(some 17), .cv .u8 (.t 16), none⟩,
  ⟨(some 18), .mv (.t 3), none⟩,
  ⟨(some 19), .bin .rem (.t 18) (.k (.c (.int .u32 256))), none⟩,
  ⟨(some 20), .cv .u8 (.t 19), none⟩,
  ⟨(some 21), .fa 1 (.t 1), none⟩,
  ⟨(some 22), .ld none (.t 21), none⟩,
  ⟨(some 23), .bin .quo (.t 22) (.k (.c (.int .u16 256))), none⟩,
  ⟨(some 24), .cv .u8 (.t 23), none⟩,
  ⟨(some 25), .fa 1 (.t 1), none⟩,
  ⟨(some 26), .ld none (.t 25), none⟩,
  ⟨(some 27), .bin .rem (.t 26) (.k (.c (.int .u16 256))), none⟩,
  ⟨(some 28), .cv .u8 (.t 27), none⟩,
  ⟨(some 29), .bsl 5 6 (List.replicate 6 (.int .u8 0)) [(0, 1, (.t 9)), (1, 1, (.t 13)), (2, 1, (.t 17)), (3, 1, (.t 20)), (4, 1, (.t 24)), (5, 1, (.t 28))], none⟩,
  ⟨(some 2), .mv (.t 29), none⟩]
def c_rotaref03_State : IC := (.seq (.ops o_rotaref03_State_0) (.seq (.ops o_rotaref03_State_1) (.seq (.ops o_rotaref03_State_2) .ret)))
def i_rotaref03_State : IFn := ⟨30, c_rotaref03_State, [(2, none)]⟩

-- F 85 rota/rotaref03.sealed: bads 0, calls [95]
abbrev o_rotaref03_sealed_0 : List IOper := [⟨(some 4), .mv (.k (.c (.bool false))), none⟩]
abbrev o_rotaref03_sealed_1 : List IOper := [⟨(some 6), .mv (.t 1), none⟩,
  ⟨(some 7), .call (.k (.c (.fn fn_rotaref01_Sum [] []))) [(.t 6)], none⟩,
  ⟨(some 5), .mv (.t 7), none⟩]
abbrev o_rotaref03_sealed_2 : List IOper := [⟨(some 8), .mv (.t 0), none⟩,
  ⟨(some 9), .iaS 1 (.t 8) (.k (.c (.int .i64 71))), none⟩,
  ⟨(some 10), .ld none (.t 9), none⟩,
  ⟨(some 11), .mv (.t 5), none⟩,
  ⟨(some 12), .bin .rem (.t 11) (.k (.c (.int .u32 256))), none⟩,
  ⟨(some 13), .cv .u8 (.t 12), none⟩,
  ⟨(some 14), .bin .eql (.t 10) (.t 13), none⟩,
  ⟨(some 15), .mv (.t 14), none⟩,
  ⟨(some 16), .mv (.t 0), some (15, true)⟩,
  ⟨(some 17), .iaS 1 (.t 16) (.k (.c (.int .i64 72))), some (15, true)⟩,
  ⟨(some 18), .ld none (.t 17), some (15, true)⟩,
  ⟨(some 19), .mv (.t 5), some (15, true)⟩,
  ⟨(some 20), .bin .quo (.t 19) (.k (.c (.int .u32 256))), some (15, true)⟩,
  ⟨(some 21), .bin .rem (.t 20) (.k (.c (.int .u32 256))), some (15, true)⟩,
  ⟨(some 22), .cv .u8 (.t 21), some (15, true)⟩,
  ⟨(some 23), .bin .eql (.t 18) (.t 22), some (15, true)⟩,
  ⟨(some 24), .pick (.t 15) (.t 23) (.k (.c (.bool false))), none⟩,
  ⟨(some 25), .mv (.t 24), none⟩,
  ⟨(some 26), .mv (.t 0), some (25, true)⟩,
  ⟨(some 27), .iaS 1 (.t 26) (.k (.c (.int .i64 73))), some (25, true)⟩,
  ⟨(some 28), .ld none (.t 27), some (25, true)⟩,
  ⟨(some 29), .mv (.t 5), some (25, true)⟩,
  ⟨(some 30), .bin .quo (.t 29) (.k (.c (.int .u32 65536))), some (25, true)⟩,
  ⟨(some 31), .bin .rem (.t 30) (.k (.c (.int .u32 256))), some (25, true)⟩,
  ⟨(some 32), .cv .u8 (.t 31), some (25, true)⟩,
  ⟨(some 33), .bin .eql (.t 28) (.t 32), some (25, true)⟩,
  ⟨(some 34), .pick (.t 25) (.t 33) (.k (.c (.bool false))), none⟩,
  ⟨(some 35), .mv (.t 34), none⟩,
  ⟨(some 36), .mv (.t 0), some (35, true)⟩,
  ⟨(some 37), .iaS 1 (.t 36) (.k (.c (.int .i64 74))), some (35, true)⟩,
  ⟨(some 38), .ld none (.t 37), some (35, true)⟩,
  ⟨(some 39), .mv (.t 5), some (35, true)⟩,
  ⟨(some 40), .bin .quo (.t 39) (.k (.c (.int .u32 16777216))), some (35, true)⟩,
  ⟨(some 41), .cv .u8 (.t 40), some (35, true)⟩,
  ⟨(some 42), .bin .eql (.t 38) (.t 41), some (35, true)⟩,
  ⟨(some 43), .pick (.t 35) (.t 42) (.k (.c (.bool false))), none⟩,
  ⟨(some 4), .mv (.t 43), none⟩]
def c_rotaref03_sealed : IC := (.seq (.ops o_rotaref03_sealed_0) (.seq (.ops o_rotaref03_sealed_1) (.seq (.ops o_rotaref03_sealed_2) .ret)))
def i_rotaref03_sealed : IFn := ⟨44, c_rotaref03_sealed, [(4, none)]⟩

-- F 86 (*rota/member.Member).bits$1: bads 0, calls []
abbrev o_member_Member_bits_1_0 : List IOper := [⟨(some 4), .ld none (.t 1), none⟩,
  ⟨(some 5), .nilck (.t 4), none⟩,
  ⟨(some 6), .fa 0 (.t 5), none⟩,
  ⟨(some 7), .fa 0 (.t 6), none⟩,
  ⟨(some 8), .ld none (.t 7), none⟩,
  ⟨(some 9), .mv (.k (.c (.int .i64 0))), none⟩]
abbrev o_member_Member_bits_1_1 : List IOper := [⟨(some 10), .bin .lss (.t 9) (.t 8), none⟩]
abbrev o_member_Member_bits_1_2 : List IOper := [⟨(some 11), .mv (.t 9), none⟩,
  ⟨(some 3), .mv (.t 11), none⟩]
abbrev o_member_Member_bits_1_3 : List IOper := [⟨(some 12), .mv (.t 0), none⟩,
  ⟨(some 13), .mv (.t 3), none⟩,
  ⟨(some 14), .bin .shl (.k (.c (.int .u16 1))) (.t 13), none⟩,
  ⟨(some 15), .call (.t 12) [(.t 14)], none⟩,
  ⟨(some 16), .un .not (.t 15), none⟩]
abbrev o_member_Member_bits_1_4 : List IOper := [⟨(some 17), .bin .add (.t 9) (.k (.c (.int .i64 1))), none⟩,
  ⟨(some 9), .mv (.t 17), none⟩]
def b_member_Member_bits_1_5 : IC := (.seq (.ops o_member_Member_bits_1_1) (.seq (.cond (.t 10) .skip (.exit 0)) (.seq (.block 1 (.seq (.ops o_member_Member_bits_1_2) (.seq (.ops o_member_Member_bits_1_3) (.cond (.t 16) .ret .skip)))) (.ops o_member_Member_bits_1_4))))
def c_member_Member_bits_1 : IC := (.seq (.ops o_member_Member_bits_1_0) (.block 0 (.loop b_member_Member_bits_1_5)))
def i_member_Member_bits_1 : IFn := ⟨18, c_member_Member_bits_1, []⟩

-- F 87 rota/frame.read: bads 0, calls [96, 96]
abbrev o_frame_read_0 : List IOper := [⟨(some 2), .new 74 (.agg (List.replicate 2 (.int .i64 0) ++ [(.int .u16 0)] ++ List.replicate 64 (.int .u8 0))), none⟩,
  ⟨(some 3), .mv (.k (.c (.bool false))), none⟩]
abbrev o_frame_read_1 : List IOper := [⟨(some 5), .mv (.t 0), none⟩,
  ⟨(some 6), .len false (.t 5), none⟩,
  ⟨(some 7), .bin .neq (.t 6) (.k (.c (.int .i64 75))), none⟩,
  ⟨(some 8), .mv (.t 7), none⟩,
  ⟨(some 9), .mv (.t 0), some (8, false)⟩,
  ⟨(some 10), .iaS 1 (.t 9) (.k (.c (.int .i64 6))), some (8, false)⟩,
  ⟨(some 11), .ld none (.t 10), some (8, false)⟩,
  ⟨(some 12), .bin .geq (.t 11) (.k (.c (.int .u8 16))), some (8, false)⟩,
  ⟨(some 13), .pick (.t 8) (.k (.c (.bool true))) (.t 12), none⟩,
  ⟨(some 14), .mv (.t 13), none⟩,
  ⟨(some 15), .mv (.t 0), some (14, false)⟩,
  ⟨(some 16), .iaS 1 (.t 15) (.k (.c (.int .i64 0))), some (14, false)⟩,
  ⟨(some 17), .ld none (.t 16), some (14, false)⟩,
  ⟨(some 18), .bin .gtr (.t 17) (.k (.c (.int .u8 127))), some (14, false)⟩,
  ⟨(some 19), .pick (.t 14) (.k (.c (.bool true))) (.t 18), none⟩]
abbrev o_frame_read_2 : List IOper := [⟨(some 20), .build (List.replicate 2 (.int .i64 0) ++ [(.int .u16 0)] ++ List.replicate 64 (.int .u8 0)) [], none⟩,
  ⟨none, .st 67 (.t 2) (.t 20), none⟩,
  ⟨(some 3), .mv (.k (.c (.bool false))), none⟩]
abbrev o_frame_read_3 : List IOper := [⟨(some 28), .mv (.t 0), none⟩,
  ⟨(some 29), .slS 1 (.t 28) (some (.k (.c (.int .i64 4)))) (some (.k (.c (.int .i64 6)))) none, none⟩,
  ⟨(some 25), .mv (.t 0), none⟩,
  ⟨(some 26), .slS 1 (.t 25) none (some (.k (.c (.int .i64 4)))) none, none⟩,
  ⟨(some 21), .mv (.t 0), none⟩,
  ⟨(some 22), .iaS 1 (.t 21) (.k (.c (.int .i64 6))), none⟩,
  ⟨(some 23), .ld none (.t 22), none⟩,
  ⟨(some 24), .cv .i64 (.t 23), none⟩,
  ⟨(some 27), .call (.k (.c (.fn fn_frame_number [] []))) [(.t 26)], none⟩,
  ⟨none, .same (some none) (.t 22) (.t 23), none⟩,
  ⟨(some 30), .call (.k (.c (.fn fn_frame_number [] []))) [(.t 29)], none⟩,
  ⟨none, .same (some none) (.t 22) (.t 23), none⟩,
  ⟨(some 31), .cv .u16 (.t 30), none⟩,
  ⟨(some 32), .build [(.int .i64 0), (.int .u16 0)] [(0, 1, (.t 27)), (1, 1, (.t 31))], none⟩,
  ⟨(some 33), .build (List.replicate 2 (.int .i64 0) ++ [(.int .u16 0)] ++ List.replicate 64 (.int .u8 0)) [(0, 1, (.t 24)), (1, 2, (.t 32))], none⟩,
  ⟨(some 4), .new 74 (.agg (List.replicate 2 (.int .i64 0) ++ [(.int .u16 0)] ++ List.replicate 64 (.int .u8 0))), none⟩,
  ⟨none, .st 67 (.t 4) (.t 33), none⟩]
abbrev o_frame_read_4 : List IOper := [⟨(some 34), .fa 3 (.t 4), none⟩,
  ⟨(some 35), .slA 64 1 (.t 34) none none none, none⟩,
  ⟨(some 36), .mv (.t 0), none⟩,
  ⟨(some 37), .slS 1 (.t 36) (some (.k (.c (.int .i64 7)))) (some (.k (.c (.int .i64 71)))) none, none⟩,
  ⟨(some 38), .cpy 1 (.t 35) (.t 37), none⟩]
abbrev o_frame_read_5 : List IOper := [⟨(some 39), .ld (some 67) (.t 4), none⟩,
  ⟨none, .st 67 (.t 2) (.t 39), none⟩,
  ⟨(some 3), .mv (.k (.c (.bool true))), none⟩]
def c_frame_read : IC := (.seq (.ops o_frame_read_0) (.seq (.seq (.ops o_frame_read_1) (.cond (.t 19) (.seq (.ops o_frame_read_2) .ret) .skip)) (.seq (.ops o_frame_read_3) (.seq (.ops o_frame_read_4) (.seq (.ops o_frame_read_5) .ret)))))
def i_frame_read : IFn := ⟨40, c_frame_read, [(2, (some (some 67))), (3, none)]⟩

-- F 88 rota/frame.checked: bads 0, calls []
abbrev o_frame_checked_0 : List IOper := [⟨(some 4), .mv (.k (.c (.bool false))), none⟩]
abbrev o_frame_checked_1 : List IOper := [⟨(some 5), .mv (.t 0), none⟩,
  ⟨(some 6), .iaS 1 (.t 5) (.k (.c (.int .i64 71))), none⟩,
  ⟨(some 7), .ld none (.t 6), none⟩,
  ⟨(some 8), .mv (.t 1), none⟩,
  ⟨(some 9), .cv .u8 (.t 8), none⟩,
  ⟨(some 10), .bin .eql (.t 7) (.t 9), none⟩,
  ⟨(some 11), .mv (.t 10), none⟩,
  ⟨(some 12), .mv (.t 0), some (11, true)⟩,
  ⟨(some 13), .iaS 1 (.t 12) (.k (.c (.int .i64 72))), some (11, true)⟩,
  ⟨(some 14), .ld none (.t 13), some (11, true)⟩,
  ⟨(some 15), .mv (.t 1), some (11, true)⟩,
  ⟨(some 16), .bin .shr (.t 15) (.k (.c (.int .u64 8))), some (11, true)⟩,
  ⟨(some 17), .cv .u8 (.t 16), some (11, true)⟩,
  ⟨(some 18), .bin .eql (.t 14) (.t 17), some (11, true)⟩,
  ⟨(some 19), .pick (.t 11) (.t 18) (.k (.c (.bool false))), none⟩,
  ⟨(some 20), .mv (.t 19), none⟩,
  ⟨(some 21), .mv (.t 0), some (20, true)⟩,
  ⟨(some 22), .iaS 1 (.t 21) (.k (.c (.int .i64 73))), some (20, true)⟩,
  ⟨(some 23), .ld none (.t 22), some (20, true)⟩,
  ⟨(some 24), .mv (.t 1), some (20, true)⟩,
  ⟨(some 25), .bin .shr (.t 24) (.k (.c (.int .u64 16))), some (20, true)⟩,
  ⟨(some 26), .cv .u8 (.t 25), some (20, true)⟩,
  ⟨(some 27), .bin .eql (.t 23) (.t 26), some (20, true)⟩,
  ⟨(some 28), .pick (.t 20) (.t 27) (.k (.c (.bool false))), none⟩,
  ⟨(some 29), .mv (.t 28), none⟩,
  ⟨(some 30), .mv (.t 0), some (29, true)⟩,
  ⟨(some 31), .iaS 1 (.t 30) (.k (.c (.int .i64 74))), some (29, true)⟩,
  ⟨(some 32), .ld none (.t 31), some (29, true)⟩,
  ⟨(some 33), .mv (.t 1), some (29, true)⟩,
  ⟨(some 34), .bin .shr (.t 33) (.k (.c (.int .u64 24))), some (29, true)⟩,
  ⟨(some 35), .cv .u8 (.t 34), some (29, true)⟩,
  ⟨(some 36), .bin .eql (.t 32) (.t 35), some (29, true)⟩,
  ⟨(some 37), .pick (.t 29) (.t 36) (.k (.c (.bool false))), none⟩,
  ⟨(some 4), .mv (.t 37), none⟩]
def c_frame_checked : IC := (.seq (.ops o_frame_checked_0) (.seq (.ops o_frame_checked_1) .ret))
def i_frame_checked : IFn := ⟨38, c_frame_checked, [(4, none)]⟩

-- F 89 rota/config.within: bads 0, calls []
abbrev o_config_within_0 : List IOper := [⟨(some 6), .mv (.k (.c (.bool false))), none⟩]
abbrev o_config_within_1 : List IOper := [⟨(some 7), .mv (.t 0), none⟩,
  ⟨(some 8), .mv (.t 1), none⟩,
  ⟨(some 9), .bin .geq (.t 7) (.t 8), none⟩,
  ⟨(some 10), .mv (.t 9), none⟩,
  ⟨(some 11), .mv (.t 0), some (10, true)⟩,
  ⟨(some 12), .mv (.t 2), some (10, true)⟩,
  ⟨(some 13), .bin .leq (.t 11) (.t 12), some (10, true)⟩,
  ⟨(some 14), .pick (.t 10) (.t 13) (.k (.c (.bool false))), none⟩,
  ⟨(some 6), .mv (.t 14), none⟩]
def c_config_within : IC := (.seq (.ops o_config_within_0) (.seq (.ops o_config_within_1) .ret))
def i_config_within : IFn := ⟨15, c_config_within, [(6, none)]⟩

-- F 90 slices.Contains[[]int,int]: bads 0, calls [97]
abbrev o_slices_Contains_int_int_0 : List IOper := [⟨(some 4), .mv (.k (.c (.bool false))), none⟩]
abbrev o_slices_Contains_int_int_1 : List IOper := [⟨(some 5), .mv (.t 0), none⟩,
  ⟨(some 6), .mv (.t 1), none⟩,
  ⟨(some 7), .call (.k (.c (.fn fn_slices_Index_int_int [] []))) [(.t 5), (.t 6)], none⟩,
  ⟨(some 8), .bin .geq (.t 7) (.k (.c (.int .i64 0))), none⟩,
  ⟨(some 4), .mv (.t 8), none⟩]
def c_slices_Contains_int_int : IC := (.seq (.ops o_slices_Contains_int_int_0) (.seq (.ops o_slices_Contains_int_int_1) .ret))
def i_slices_Contains_int_int : IFn := ⟨9, c_slices_Contains_int_int, [(4, none)]⟩

-- F 91 rota/config.Precision: bads 0, calls []
abbrev o_config_Precision_0 : List IOper := [⟨(some 1), .box 28 (.t 0), none⟩,
  ⟨(some 2), .mv (.k (.c (.int .i64 0))), none⟩]
abbrev o_config_Precision_1 : List IOper := [⟨(some 3), .fa 2 (.t 1), none⟩,
  ⟨(some 4), .ld none (.t 3), none⟩,
  ⟨(some 5), .fa 3 (.t 1), none⟩,
  ⟨(some 6), .ld none (.t 5), none⟩,
  ⟨(some 7), .bin .add (.t 4) (.t 6), none⟩,
  ⟨(some 8), .bin .mul (.k (.c (.int .i64 2))) (.t 7), none⟩,
  ⟨(some 9), .bin .add (.t 8) (.k (.c (.int .i64 1))), none⟩,
  ⟨(some 2), .mv (.t 9), none⟩]
def c_config_Precision : IC := (.seq (.ops o_config_Precision_0) (.seq (.ops o_config_Precision_1) .ret))
def i_config_Precision : IFn := ⟨10, c_config_Precision, [(2, none)]⟩

-- F 92 rota/config.pairs: bads 0, calls [98]
abbrev o_config_pairs_0 : List IOper := [⟨(some 1), .box 3 (.t 0), none⟩,
  ⟨(some 2), .mv (.k (.c .nilFn)), none⟩]
abbrev o_config_pairs_1 : List IOper := [⟨(some 3), .mkfn fn_config_pairs_1 [] [(.t 1)], none⟩,
  ⟨(some 2), .mv (.t 3), none⟩]
def c_config_pairs : IC := (.seq (.ops o_config_pairs_0) (.seq (.ops o_config_pairs_1) .ret))
def i_config_pairs : IFn := ⟨4, c_config_pairs, [(2, none)]⟩

-- F 93 rota/config.meet: bads 0, calls []
abbrev o_config_meet_0 : List IOper := [⟨(some 8), .mv (.k (.c (.bool false))), none⟩]
abbrev o_config_meet_1 : List IOper := [⟨(some 9), .mv (.t 0), none⟩,
  ⟨(some 10), .mv (.t 2), none⟩,
  ⟨(some 11), .mx (.t 9) [(.t 10)], none⟩,
  ⟨(some 12), .mv (.t 1), none⟩,
  ⟨(some 13), .mv (.t 3), none⟩,
  ⟨(some 14), .mn (.t 12) [(.t 13)], none⟩,
  ⟨(some 15), .bin .lss (.t 11) (.t 14), none⟩,
  ⟨(some 8), .mv (.t 15), none⟩]
def c_config_meet : IC := (.seq (.ops o_config_meet_0) (.seq (.ops o_config_meet_1) .ret))
def i_config_meet : IFn := ⟨16, c_config_meet, [(8, none)]⟩

-- F 94 rota/config.port: bads 0, calls [89]
abbrev o_config_port_0 : List IOper := [⟨(some 2), .box 28 (.t 0), none⟩,
  ⟨(some 4), .new 113 (.agg (List.replicate 6 (.int .i64 0))), none⟩,
  ⟨(some 5), .mv (.k (.c (.bool false))), none⟩]
abbrev o_config_port_1 : List IOper := [⟨(some 6), .mv (.t 1), none⟩,
  ⟨(some 7), .fa 10 (.t 2), none⟩,
  ⟨(some 8), .ld none (.t 7), none⟩,
  ⟨(some 9), .len false (.t 8), none⟩,
  ⟨(some 10), .bin .sub (.t 9) (.k (.c (.int .i64 1))), none⟩,
  ⟨(some 11), .call (.k (.c (.fn fn_config_within [] []))) [(.t 6), (.k (.c (.int .i64 0))), (.t 10)], none⟩,
  ⟨(some 12), .un .not (.t 11), none⟩]
abbrev o_config_port_2 : List IOper := [⟨(some 13), .build (List.replicate 6 (.int .i64 0)) [], none⟩,
  ⟨none, .st 6 (.t 4) (.t 13), none⟩,
  ⟨(some 5), .mv (.k (.c (.bool false))), none⟩]
abbrev o_config_port_3 : List IOper := [⟨(some 14), .fa 10 (.t 2), none⟩,
  ⟨(some 15), .ld none (.t 14), none⟩,
  ⟨(some 16), .mv (.t 1), none⟩,
  ⟨(some 17), .iaS 6 (.t 15) (.t 16), none⟩,
  ⟨(some 18), .ld (some 6) (.t 17), none⟩,
  ⟨none, .st 6 (.t 4) (.t 18), none⟩,
  ⟨(some 5), .mv (.k (.c (.bool true))), none⟩]
def c_config_port : IC := (.seq (.ops o_config_port_0) (.seq (.seq (.ops o_config_port_1) (.cond (.t 12) (.seq (.ops o_config_port_2) .ret) .skip)) (.seq (.ops o_config_port_3) .ret)))
def i_config_port : IFn := ⟨19, c_config_port, [(4, (some (some 6))), (5, none)]⟩

-- F 95 rota/rotaref01.Sum: bads 0, calls [99]
abbrev o_rotaref01_Sum_0 : List IOper := [⟨(some 2), .mv (.k (.c (.int .u32 0))), none⟩]
abbrev o_rotaref01_Sum_1 : List IOper := [⟨(some 3), .mv (.t 0), none⟩,
  ⟨(some 4), .call (.k (.c (.fn fn_rotaref01_More [] []))) [(.k (.c (.int .u32 0))), (.t 3)], none⟩,
  ⟨(some 2), .mv (.t 4), none⟩]
def c_rotaref01_Sum : IC := (.seq (.ops o_rotaref01_Sum_0) (.seq (.ops o_rotaref01_Sum_1) .ret))
def i_rotaref01_Sum : IFn := ⟨5, c_rotaref01_Sum, [(2, none)]⟩

-- F 96 rota/frame.number: bads 0, calls []
abbrev o_frame_number_0 : List IOper := [⟨(some 2), .mv (.k (.c (.int .i64 0))), none⟩]
abbrev o_frame_number_1 : List IOper := [⟨(some 5), .mv (.t 0), none⟩,
  ⟨(some 6), .len false (.t 5), none⟩,
  ⟨(some 7), .mv (.k (.c (.int .i64 0))), none⟩]
abbrev o_frame_number_2 : List IOper := [⟨(some 8), .bin .lss (.t 7) (.t 6), none⟩]
abbrev o_frame_number_3 : List IOper := [⟨(some 9), .iaS 1 (.t 5) (.t 7), none⟩,
  ⟨(some 10), .ld none (.t 9), none⟩,
  ⟨(some 4), .mv (.t 10), none⟩]
abbrev o_frame_number_4 : List IOper := [⟨(some 11), .mv (.t 2), none⟩,
  ⟨(some 12), .bin .shl (.t 11) (.k (.c (.int .u64 8))), none⟩,
  ⟨(some 13), .mv (.t 4), none⟩,
  ⟨(some 14), .cv .i64 (.t 13), none⟩,
  ⟨(some 15), .bin .or (.t 12) (.t 14), none⟩,
  ⟨(some 2), .mv (.t 15), none⟩]
abbrev o_frame_number_5 : List IOper := [⟨(some 16), .bin .add (.t 7) (.k (.c (.int .i64 1))), none⟩,
  ⟨(some 7), .mv (.t 16), none⟩]
def b_frame_number_6 : IC := (.seq (.ops o_frame_number_2) (.seq (.cond (.t 8) .skip (.exit 0)) (.seq (.block 1 (.seq (.ops o_frame_number_3) (.ops o_frame_number_4))) (.ops o_frame_number_5))))
abbrev o_frame_number_7 : List IOper := [⟨(some 17), .mv (.t 2), none⟩,
  ⟨(some 2), .mv (.t 17), none⟩]
def c_frame_number : IC := (.seq (.ops o_frame_number_0) (.seq (.seq (.ops o_frame_number_1) (.block 0 (.loop b_frame_number_6))) (.seq (.ops o_frame_number_7) .ret)))
def i_frame_number : IFn := ⟨18, c_frame_number, [(2, none)]⟩

-- F 97 slices.Index[[]int,int]: bads 0, calls []
abbrev o_slices_Index_int_int_0 : List IOper := [⟨(some 4), .mv (.k (.c (.int .i64 0))), none⟩]
abbrev o_slices_Index_int_int_1 : List IOper := [⟨(some 6), .mv (.t 0), none⟩,
  ⟨(some 7), .len false (.t 6), none⟩,
  ⟨(some 8), .mv (.k (.c (.int .i64 0))), none⟩]
abbrev o_slices_Index_int_int_2 : List IOper := [⟨(some 9), .bin .lss (.t 8) (.t 7), none⟩]
abbrev o_slices_Index_int_int_3 : List IOper := [⟨(some 10), .mv (.t 8), none⟩,
  ⟨(some 5), .mv (.t 10), none⟩]
abbrev o_slices_Index_int_int_4 : List IOper := [⟨(some 11), .mv (.t 1), none⟩,
  ⟨(some 12), .mv (.t 0), none⟩,
  ⟨(some 13), .mv (.t 5), none⟩,
  ⟨(some 14), .iaS 1 (.t 12) (.t 13), none⟩,
  ⟨(some 15), .ld none (.t 14), none⟩,
  ⟨(some 16), .bin .eql (.t 11) (.t 15), none⟩]
abbrev o_slices_Index_int_int_5 : List IOper := [⟨(some 17), .mv (.t 5), none⟩,
  ⟨(some 4), .mv (.t 17), none⟩]
abbrev o_slices_Index_int_int_6 : List IOper := [⟨(some 18), .bin .add (.t 8) (.k (.c (.int .i64 1))), none⟩,
  ⟨(some 8), .mv (.t 18), none⟩]
def b_slices_Index_int_int_7 : IC := (.seq (.ops o_slices_Index_int_int_2) (.seq (.cond (.t 9) .skip (.exit 0)) (.seq (.block 1 (.seq (.ops o_slices_Index_int_int_3) (.seq (.ops o_slices_Index_int_int_4) (.cond (.t 16) (.seq (.ops o_slices_Index_int_int_5) .ret) .skip)))) (.ops o_slices_Index_int_int_6))))
abbrev o_slices_Index_int_int_8 : List IOper := [⟨(some 4), .mv (.k (.c (.int .i64 (-1)))), none⟩]
def c_slices_Index_int_int : IC := (.seq (.ops o_slices_Index_int_int_0) (.seq (.seq (.ops o_slices_Index_int_int_1) (.block 0 (.loop b_slices_Index_int_int_7))) (.seq (.ops o_slices_Index_int_int_8) .ret)))
def i_slices_Index_int_int : IFn := ⟨19, c_slices_Index_int_int, [(4, none)]⟩

-- F 98 rota/config.pairs$1: bads 0, calls []
abbrev o_config_pairs_1_0 : List IOper := [⟨(some 5), .ld none (.t 1), none⟩,
  ⟨(some 6), .mv (.k (.c (.int .i64 0))), none⟩]
abbrev o_config_pairs_1_1 : List IOper := [⟨(some 7), .bin .lss (.t 6) (.t 5), none⟩]
abbrev o_config_pairs_1_2 : List IOper := [⟨(some 8), .mv (.t 6), none⟩,
  ⟨(some 3), .mv (.t 8), none⟩]
abbrev o_config_pairs_1_3 : List IOper := [⟨(some 9), .mv (.t 3), none⟩,
  ⟨(some 10), .mv (.k (.c (.int .i64 0))), none⟩]
abbrev o_config_pairs_1_4 : List IOper := [⟨(some 11), .bin .lss (.t 10) (.t 9), none⟩]
abbrev o_config_pairs_1_5 : List IOper := [⟨(some 12), .mv (.t 10), none⟩,
  ⟨(some 4), .mv (.t 12), none⟩]
abbrev o_config_pairs_1_6 : List IOper := [⟨(some 13), .mv (.t 0), none⟩,
  ⟨(some 14), .mv (.t 4), none⟩,
  ⟨(some 15), .mv (.t 3), none⟩,
  ⟨(some 16), .call (.t 13) [(.t 14), (.t 15)], none⟩,
  ⟨(some 17), .un .not (.t 16), none⟩]
abbrev o_config_pairs_1_7 : List IOper := [⟨(some 18), .bin .add (.t 10) (.k (.c (.int .i64 1))), none⟩,
  ⟨(some 10), .mv (.t 18), none⟩]
def b_config_pairs_1_8 : IC := (.seq (.ops o_config_pairs_1_4) (.seq (.cond (.t 11) .skip (.exit 2)) (.seq (.block 3 (.seq (.ops o_config_pairs_1_5) (.seq (.ops o_config_pairs_1_6) (.cond (.t 17) (.exit 0) .skip)))) (.ops o_config_pairs_1_7))))
abbrev o_config_pairs_1_9 : List IOper := [⟨(some 19), .bin .add (.t 6) (.k (.c (.int .i64 1))), none⟩,
  ⟨(some 6), .mv (.t 19), none⟩]
def b_config_pairs_1_10 : IC := (.seq (.ops o_config_pairs_1_1) (.seq (.cond (.t 7) .skip (.exit 0)) (.seq (.block 1 (.seq (.ops o_config_pairs_1_2) (.seq (.ops o_config_pairs_1_3) (.block 2 (.loop b_config_pairs_1_8))))) (.ops o_config_pairs_1_9))))
def c_config_pairs_1 : IC := (.seq .skip (.seq .skip (.seq (.ops o_config_pairs_1_0) (.block 0 (.loop b_config_pairs_1_10)))))
def i_config_pairs_1 : IFn := ⟨20, c_config_pairs_1, []⟩

-- F 99 rota/rotaref01.More: bads 0, calls [100]
abbrev o_rotaref01_More_0 : List IOper := [⟨(some 4), .mv (.k (.c (.int .u32 0))), none⟩]
abbrev o_rotaref01_More_1 : List IOper := [⟨(some 7), .mv (.t 0), none⟩,
  ⟨(some 8), .bin .sub (.k (.c (.int .u32 4294967295))) (.t 7), none⟩,
  ⟨(some 5), .mv (.t 8), none⟩]
abbrev o_rotaref01_More_2 : List IOper := [⟨(some 6), .mv (.k (.c (.int .i64 0))), none⟩]
abbrev o_rotaref01_More_3 : List IOper := [⟨(some 9), .mv (.t 6), none⟩,
  ⟨(some 10), .mv (.t 1), none⟩,
  ⟨(some 11), .len false (.t 10), none⟩,
  ⟨(some 12), .bin .lss (.t 9) (.t 11), none⟩]
abbrev o_rotaref01_More_4 : List IOper := [⟨(some 15), .mv (.t 5), none⟩,
  ⟨(some 16), .mv (.t 1), none⟩,
  ⟨(some 17), .mv (.t 6), none⟩,
  ⟨(some 18), .iaS 1 (.t 16) (.t 17), none⟩,
  ⟨(some 19), .ld none (.t 18), none⟩,
  ⟨(some 20), .cv .u32 (.t 19), none⟩,
  ⟨(some 21), .bin .xor (.t 15) (.t 20), none⟩,
  ⟨(some 22), .call (.k (.c (.fn fn_rotaref01_steps [] []))) [(.t 21)], none⟩,
  ⟨(some 5), .mv (.t 22), none⟩]
abbrev o_rotaref01_More_5 : List IOper := [⟨(some 13), .mv (.t 6), none⟩,
  ⟨(some 14), .bin .add (.t 13) (.k (.c (.int .i64 1))), none⟩,
  ⟨(some 6), .mv (.t 14), none⟩]
def b_rotaref01_More_6 : IC := (.seq (.seq (.ops o_rotaref01_More_3) (.cond (.t 12) .skip (.exit 0))) (.seq (.block 1 (.ops o_rotaref01_More_4)) (.ops o_rotaref01_More_5)))
abbrev o_rotaref01_More_7 : List IOper := [⟨(some 23), .mv (.t 5), none⟩,
  ⟨(some 24), .bin .sub (.k (.c (.int .u32 4294967295))) (.t 23), none⟩,
  ⟨(some 4), .mv (.t 24), none⟩]
def c_rotaref01_More : IC := (.seq (.ops o_rotaref01_More_0) (.seq (.ops o_rotaref01_More_1) (.seq (.seq (.ops o_rotaref01_More_2) (.block 0 (.loop b_rotaref01_More_6))) (.seq (.ops o_rotaref01_More_7) .ret))))
def i_rotaref01_More : IFn := ⟨25, c_rotaref01_More, [(4, none)]⟩

-- F 100 rota/rotaref01.steps: bads 0, calls []
abbrev o_rotaref01_steps_0 : List IOper := [⟨(some 2), .mv (.k (.c (.int .u32 0))), none⟩]
abbrev o_rotaref01_steps_1 : List IOper := [⟨(some 3), .mv (.k (.c (.int .i64 0))), none⟩]
abbrev o_rotaref01_steps_2 : List IOper := [⟨(some 5), .mv (.t 3), none⟩,
  ⟨(some 6), .bin .lss (.t 5) (.k (.c (.int .i64 8))), none⟩]
abbrev o_rotaref01_steps_3 : List IOper := [⟨(some 9), .mv (.t 0), none⟩,
  ⟨(some 10), .bin .rem (.t 9) (.k (.c (.int .u32 2))), none⟩,
  ⟨(some 4), .mv (.t 10), none⟩]
abbrev o_rotaref01_steps_4 : List IOper := [⟨(some 11), .mv (.t 0), none⟩,
  ⟨(some 12), .bin .quo (.t 11) (.k (.c (.int .u32 2))), none⟩,
  ⟨(some 0), .mv (.t 12), none⟩]
abbrev o_rotaref01_steps_5 : List IOper := [⟨(some 13), .mv (.t 4), none⟩,
  ⟨(some 14), .bin .eql (.t 13) (.k (.c (.int .u32 1))), none⟩]
abbrev o_rotaref01_steps_6 : List IOper := [⟨(some 15), .mv (.t 0), none⟩,
  ⟨(some 16), .bin .xor (.t 15) (.k (.c (.int .u32 3988292384))), none⟩,
  ⟨(some 0), .mv (.t 16), none⟩]
abbrev o_rotaref01_steps_7 : List IOper := [⟨(some 7), .mv (.t 3), none⟩,
  ⟨(some 8), .bin .add (.t 7) (.k (.c (.int .i64 1))), none⟩,
  ⟨(some 3), .mv (.t 8), none⟩]
def b_rotaref01_steps_8 : IC := (.seq (.seq (.ops o_rotaref01_steps_2) (.cond (.t 6) .skip (.exit 0))) (.seq (.block 1 (.seq (.ops o_rotaref01_steps_3) (.seq (.ops o_rotaref01_steps_4) (.seq (.ops o_rotaref01_steps_5) (.cond (.t 14) (.ops o_rotaref01_steps_6) .skip))))) (.ops o_rotaref01_steps_7)))
abbrev o_rotaref01_steps_9 : List IOper := [⟨(some 17), .mv (.t 0), none⟩,
  ⟨(some 2), .mv (.t 17), none⟩]
def c_rotaref01_steps : IC := (.seq (.ops o_rotaref01_steps_0) (.seq (.seq (.ops o_rotaref01_steps_1) (.block 0 (.loop b_rotaref01_steps_8))) (.seq (.ops o_rotaref01_steps_9) .ret)))
def i_rotaref01_steps : IFn := ⟨18, c_rotaref01_steps, [(2, none)]⟩

def fs : List (Nat × IFn) := [(fn_rotalaw09_MemberAgree, i_rotalaw09_MemberAgree), (fn_rotalaw09_MemberPlays, i_rotalaw09_MemberPlays), (fn_rotalaw09_MemberHeals, i_rotalaw09_MemberHeals), (fn_rotalaw09_MemberStarts, i_rotalaw09_MemberStarts), (fn_rotalaw09_MemberNames, i_rotalaw09_MemberNames), (fn_rotalaw09_alive, i_rotalaw09_alive), (fn_rotalaw09_made, i_rotalaw09_made), (fn_member_Member_Vector, i_member_Member_Vector), (fn_rotalaw09_ghost_event, i_rotalaw09_ghost_event), (fn_rotalaw09_group_step, i_rotalaw09_group_step), (fn_rotalaw09_ghost_agrees, i_rotalaw09_ghost_agrees), (fn_member_New, i_member_New), (fn_rotaref09_New, i_rotaref09_New), (fn_rotalaw09_step, i_rotalaw09_step), (fn_rotalaw09_same, i_rotalaw09_same), (fn_member_Member_Start, i_member_Member_Start), (fn_member_Member_State, i_member_Member_State), (fn_member_Member_Slot, i_member_Member_Slot), (fn_rotalaw07_Four, i_rotalaw07_Four), (fn_member_Member_Join, i_member_Member_Join), (fn_member_Member_Turn, i_member_Member_Turn), (fn_member_Member_Next, i_member_Member_Next), (fn_member_Member_Hear, i_member_Member_Hear), (fn_member_Member_Calm, i_member_Member_Calm), (fn_frame_Encode, i_frame_Encode), (fn_member_Member_Counts, i_member_Member_Counts), (fn_member_Member_none, i_member_Member_none), (fn_rotalaw09_count, i_rotalaw09_count), (fn_config_Check, i_config_Check), (fn_rotaref02_Check, i_rotaref02_Check), (fn_rotaref09_Member_Start, i_rotaref09_Member_Start), (fn_rotaref09_Member_Join, i_rotaref09_Member_Join), (fn_rotaref09_Member_Turn, i_rotaref09_Member_Turn), (fn_rotaref09_Member_Hear, i_rotaref09_Member_Hear), (fn_rotaref09_Member_Next, i_rotaref09_Member_Next), (fn_rotaref09_Member_Vector, i_rotaref09_Member_Vector), (fn_member_Member_stop, i_member_Member_stop), (fn_member_Member_all, i_member_Member_all), (fn_member_Member_anew, i_member_Member_anew), (fn_member_Member_turnActive, i_member_Member_turnActive), (fn_member_Member_turnListen, i_member_Member_turnListen), (fn_member_Member_astray, i_member_Member_astray), (fn_member_Member_find, i_member_Member_find), (fn_member_Member_turn, i_member_Member_turn), (fn_member_Member_judge, i_member_Member_judge), (fn_frame_state, i_frame_state), (fn_sum_Sum, i_sum_Sum), (fn_config_fine, i_config_fine), (fn_rotaref02_nodes, i_rotaref02_nodes), (fn_rotaref02_clock, i_rotaref02_clock), (fn_rotaref02_parts, i_rotaref02_parts), (fn_rotaref02_windows, i_rotaref02_windows), (fn_rotaref02_ports, i_rotaref02_ports), (fn_rotaref02_links, i_rotaref02_links), (fn_rotaref09_Member_stop, i_rotaref09_Member_stop), (fn_rotaref09_Member_anew, i_rotaref09_Member_anew), (fn_rotaref09_Member_turn, i_rotaref09_Member_turn), (fn_rotaref09_Member_freeze, i_rotaref09_Member_freeze), (fn_rotaref09_Member_find, i_rotaref09_Member_find), (fn_rotaref09_Member_astray, i_rotaref09_Member_astray), (fn_rotaref03_Accept, i_rotaref03_Accept), (fn_member_Member_bits, i_member_Member_bits), (fn_member_Member_freeze, i_member_Member_freeze), (fn_frame_Decode, i_frame_Decode), (fn_frame_Accept, i_frame_Accept), (fn_sum_More, i_sum_More), (fn_config_nodes, i_config_nodes), (fn_config_clocks, i_config_clocks), (fn_config_parts, i_config_parts), (fn_config_windows, i_config_windows), (fn_config_ports, i_config_ports), (fn_config_links, i_config_links), (fn_rotaref02_count, i_rotaref02_count), (fn_rotaref02_Precision, i_rotaref02_Precision), (fn_rotaref02_meet, i_rotaref02_meet), (fn_rotaref02_Alone, i_rotaref02_Alone), (fn_rotaref02_is, i_rotaref02_is), (fn_rotaref09_Member_nobody, i_rotaref09_Member_nobody), (fn_rotaref03_Decode, i_rotaref03_Decode), (fn_rotaref09_Parted, i_rotaref09_Parted), (fn_rotaref03_told, i_rotaref03_told), (fn_rotaref03_State, i_rotaref03_State), (fn_rotaref03_sealed, i_rotaref03_sealed), (fn_member_Member_bits_1, i_member_Member_bits_1), (fn_frame_read, i_frame_read), (fn_frame_checked, i_frame_checked), (fn_config_within, i_config_within), (fn_slices_Contains_int_int, i_slices_Contains_int_int), (fn_config_Precision, i_config_Precision), (fn_config_pairs, i_config_pairs), (fn_config_meet, i_config_meet), (fn_config_port, i_config_port), (fn_rotaref01_Sum, i_rotaref01_Sum), (fn_frame_number, i_frame_number), (fn_slices_Index_int_int, i_slices_Index_int_int), (fn_config_pairs_1, i_config_pairs_1), (fn_rotaref01_More, i_rotaref01_More), (fn_rotaref01_steps, i_rotaref01_steps)]
def F : FuncId → Option Fun := funs fs
theorem e_rotalaw09_MemberAgree : F fn_rotalaw09_MemberAgree = some (.code ⟨68, c_rotalaw09_MemberAgree, [(4, none)]⟩) := by rfl
theorem e_rotalaw09_MemberPlays : F fn_rotalaw09_MemberPlays = some (.code ⟨83, c_rotalaw09_MemberPlays, [(6, none)]⟩) := by rfl
theorem e_rotalaw09_MemberHeals : F fn_rotalaw09_MemberHeals = some (.code ⟨152, c_rotalaw09_MemberHeals, [(4, none)]⟩) := by rfl
theorem e_rotalaw09_MemberStarts : F fn_rotalaw09_MemberStarts = some (.code ⟨130, c_rotalaw09_MemberStarts, [(4, none)]⟩) := by rfl
theorem e_rotalaw09_MemberNames : F fn_rotalaw09_MemberNames = some (.code ⟨320, c_rotalaw09_MemberNames, [(0, none)]⟩) := by rfl
theorem e_rotalaw09_alive : F fn_rotalaw09_alive = some (.code ⟨67, c_rotalaw09_alive, [(0, none)]⟩) := by rfl
theorem e_rotalaw09_made : F fn_rotalaw09_made = some (.code ⟨51, c_rotalaw09_made, [(4, none), (5, none)]⟩) := by rfl
theorem e_member_Member_Vector : F fn_member_Member_Vector = some (.code ⟨9, c_member_Member_Vector, [(2, none)]⟩) := by rfl
theorem e_rotalaw09_ghost_event : F fn_rotalaw09_ghost_event = some (.code ⟨117, c_rotalaw09_ghost_event, [(6, none)]⟩) := by rfl
theorem e_rotalaw09_group_step : F fn_rotalaw09_group_step = some (.code ⟨111, c_rotalaw09_group_step, []⟩) := by rfl
theorem e_rotalaw09_ghost_agrees : F fn_rotalaw09_ghost_agrees = some (.code ⟨117, c_rotalaw09_ghost_agrees, [(4, none)]⟩) := by rfl
theorem e_member_New : F fn_member_New = some (.code ⟨35, c_member_New, [(4, none), (5, none)]⟩) := by rfl
theorem e_rotaref09_New : F fn_rotaref09_New = some (.code ⟨28, c_rotaref09_New, [(4, (some (some 20))), (5, none)]⟩) := by rfl
theorem e_rotalaw09_step : F fn_rotalaw09_step = some (.code ⟨122, c_rotalaw09_step, [(6, none)]⟩) := by rfl
theorem e_rotalaw09_same : F fn_rotalaw09_same = some (.code ⟨74, c_rotalaw09_same, [(4, none)]⟩) := by rfl
theorem e_member_Member_Start : F fn_member_Member_Start = some (.code ⟨16, c_member_Member_Start, [(2, none)]⟩) := by rfl
theorem e_member_Member_State : F fn_member_Member_State = some (.code ⟨9, c_member_Member_State, [(2, none)]⟩) := by rfl
theorem e_member_Member_Slot : F fn_member_Member_Slot = some (.code ⟨9, c_member_Member_Slot, [(2, none)]⟩) := by rfl
theorem e_rotalaw07_Four : F fn_rotalaw07_Four = some (.code ⟨10, c_rotalaw07_Four, [(0, (some (some 12)))]⟩) := by rfl
theorem e_member_Member_Join : F fn_member_Member_Join = some (.code ⟨36, c_member_Member_Join, [(4, none)]⟩) := by rfl
theorem e_member_Member_Turn : F fn_member_Member_Turn = some (.code ⟨33, c_member_Member_Turn, [(2, (some (some 2))), (3, none)]⟩) := by rfl
theorem e_member_Member_Next : F fn_member_Member_Next = some (.code ⟨27, c_member_Member_Next, [(2, none)]⟩) := by rfl
theorem e_member_Member_Hear : F fn_member_Member_Hear = some (.code ⟨162, c_member_Member_Hear, [(6, (some (some 67))), (7, none)]⟩) := by rfl
theorem e_member_Member_Calm : F fn_member_Member_Calm = some (.code ⟨14, c_member_Member_Calm, [(2, none), (3, none)]⟩) := by rfl
theorem e_frame_Encode : F fn_frame_Encode = some (.code ⟨53, c_frame_Encode, [(2, none), (3, none)]⟩) := by rfl
theorem e_member_Member_Counts : F fn_member_Member_Counts = some (.code ⟨14, c_member_Member_Counts, [(2, none), (3, none)]⟩) := by rfl
theorem e_member_Member_none : F fn_member_Member_none = some (.code ⟨13, c_member_Member_none, [(2, none)]⟩) := by rfl
theorem e_rotalaw09_count : F fn_rotalaw09_count = some (.code ⟨14, c_rotalaw09_count, [(2, none)]⟩) := by rfl
theorem e_config_Check : F fn_config_Check = some (.code ⟨13, c_config_Check, [(2, none)]⟩) := by rfl
theorem e_rotaref02_Check : F fn_rotaref02_Check = some (.code ⟨21, c_rotaref02_Check, [(2, none)]⟩) := by rfl
theorem e_rotaref09_Member_Start : F fn_rotaref09_Member_Start = some (.code ⟨13, c_rotaref09_Member_Start, []⟩) := by rfl
theorem e_rotaref09_Member_Join : F fn_rotaref09_Member_Join = some (.code ⟨43, c_rotaref09_Member_Join, [(4, none)]⟩) := by rfl
theorem e_rotaref09_Member_Turn : F fn_rotaref09_Member_Turn = some (.code ⟨195, c_rotaref09_Member_Turn, [(2, (some (some 2))), (3, none)]⟩) := by rfl
theorem e_rotaref09_Member_Hear : F fn_rotaref09_Member_Hear = some (.code ⟨141, c_rotaref09_Member_Hear, [(6, (some (some 67))), (7, none)]⟩) := by rfl
theorem e_rotaref09_Member_Next : F fn_rotaref09_Member_Next = some (.code ⟨21, c_rotaref09_Member_Next, []⟩) := by rfl
theorem e_rotaref09_Member_Vector : F fn_rotaref09_Member_Vector = some (.code ⟨28, c_rotaref09_Member_Vector, [(2, none)]⟩) := by rfl
theorem e_member_Member_stop : F fn_member_Member_stop = some (.code ⟨14, c_member_Member_stop, []⟩) := by rfl
theorem e_member_Member_all : F fn_member_Member_all = some (.code ⟨12, c_member_Member_all, [(2, none)]⟩) := by rfl
theorem e_member_Member_anew : F fn_member_Member_anew = some (.code ⟨23, c_member_Member_anew, []⟩) := by rfl
theorem e_member_Member_turnActive : F fn_member_Member_turnActive = some (.code ⟨33, c_member_Member_turnActive, [(2, none)]⟩) := by rfl
theorem e_member_Member_turnListen : F fn_member_Member_turnListen = some (.code ⟨127, c_member_Member_turnListen, [(2, none)]⟩) := by rfl
theorem e_member_Member_astray : F fn_member_Member_astray = some (.code ⟨11, c_member_Member_astray, []⟩) := by rfl
theorem e_member_Member_find : F fn_member_Member_find = some (.code ⟨84, c_member_Member_find, [(6, (some (some 67))), (7, none)]⟩) := by rfl
theorem e_member_Member_turn : F fn_member_Member_turn = some (.code ⟨19, c_member_Member_turn, [(4, none)]⟩) := by rfl
theorem e_member_Member_judge : F fn_member_Member_judge = some (.code ⟨36, c_member_Member_judge, [(8, (some (some 67))), (9, none)]⟩) := by rfl
theorem e_frame_state : F fn_frame_state = some (.code ⟨26, c_frame_state, [(2, none)]⟩) := by rfl
theorem e_sum_Sum : F fn_sum_Sum = some (.code ⟨5, c_sum_Sum, [(2, none)]⟩) := by rfl
theorem e_config_fine : F fn_config_fine = some (.code ⟨28, c_config_fine, [(4, none)]⟩) := by rfl
theorem e_rotaref02_nodes : F fn_rotaref02_nodes = some (.code ⟨31, c_rotaref02_nodes, [(2, none)]⟩) := by rfl
theorem e_rotaref02_clock : F fn_rotaref02_clock = some (.code ⟨70, c_rotaref02_clock, [(2, none)]⟩) := by rfl
theorem e_rotaref02_parts : F fn_rotaref02_parts = some (.code ⟨90, c_rotaref02_parts, [(2, none)]⟩) := by rfl
theorem e_rotaref02_windows : F fn_rotaref02_windows = some (.code ⟨64, c_rotaref02_windows, [(2, none)]⟩) := by rfl
theorem e_rotaref02_ports : F fn_rotaref02_ports = some (.code ⟨43, c_rotaref02_ports, [(2, none)]⟩) := by rfl
theorem e_rotaref02_links : F fn_rotaref02_links = some (.code ⟨227, c_rotaref02_links, [(2, none)]⟩) := by rfl
theorem e_rotaref09_Member_stop : F fn_rotaref09_Member_stop = some (.code ⟨13, c_rotaref09_Member_stop, []⟩) := by rfl
theorem e_rotaref09_Member_anew : F fn_rotaref09_Member_anew = some (.code ⟨20, c_rotaref09_Member_anew, []⟩) := by rfl
theorem e_rotaref09_Member_turn : F fn_rotaref09_Member_turn = some (.code ⟨19, c_rotaref09_Member_turn, [(4, none)]⟩) := by rfl
theorem e_rotaref09_Member_freeze : F fn_rotaref09_Member_freeze = some (.code ⟨16, c_rotaref09_Member_freeze, []⟩) := by rfl
theorem e_rotaref09_Member_find : F fn_rotaref09_Member_find = some (.code ⟨88, c_rotaref09_Member_find, [(6, (some (some 67))), (7, none)]⟩) := by rfl
theorem e_rotaref09_Member_astray : F fn_rotaref09_Member_astray = some (.code ⟨11, c_rotaref09_Member_astray, []⟩) := by rfl
theorem e_rotaref03_Accept : F fn_rotaref03_Accept = some (.code ⟨41, c_rotaref03_Accept, [(6, (some (some 67))), (7, none)]⟩) := by rfl
theorem e_member_Member_bits : F fn_member_Member_bits = some (.code ⟨4, c_member_Member_bits, [(2, none)]⟩) := by rfl
theorem e_member_Member_freeze : F fn_member_Member_freeze = some (.code ⟨17, c_member_Member_freeze, []⟩) := by rfl
theorem e_frame_Decode : F fn_frame_Decode = some (.code ⟨22, c_frame_Decode, [(2, (some (some 67))), (3, none)]⟩) := by rfl
theorem e_frame_Accept : F fn_frame_Accept = some (.code ⟨40, c_frame_Accept, [(6, (some (some 67))), (7, none)]⟩) := by rfl
theorem e_sum_More : F fn_sum_More = some (.code ⟨37, c_sum_More, [(4, none)]⟩) := by rfl
theorem e_config_nodes : F fn_config_nodes = some (.code ⟨27, c_config_nodes, [(2, none)]⟩) := by rfl
theorem e_config_clocks : F fn_config_clocks = some (.code ⟨40, c_config_clocks, [(2, none)]⟩) := by rfl
theorem e_config_parts : F fn_config_parts = some (.code ⟨73, c_config_parts, [(2, (some none))]⟩) := by rfl
theorem e_config_windows : F fn_config_windows = some (.code ⟨55, c_config_windows, [(2, none)]⟩) := by rfl
theorem e_config_ports : F fn_config_ports = some (.code ⟨76, c_config_ports, [(2, none)]⟩) := by rfl
theorem e_config_links : F fn_config_links = some (.code ⟨195, c_config_links, [(2, (some none))]⟩) := by rfl
theorem e_rotaref02_count : F fn_rotaref02_count = some (.code ⟨22, c_rotaref02_count, [(4, none)]⟩) := by rfl
theorem e_rotaref02_Precision : F fn_rotaref02_Precision = some (.code ⟨10, c_rotaref02_Precision, [(2, none)]⟩) := by rfl
theorem e_rotaref02_meet : F fn_rotaref02_meet = some (.code ⟨24, c_rotaref02_meet, [(8, none)]⟩) := by rfl
theorem e_rotaref02_Alone : F fn_rotaref02_Alone = some (.code ⟨71, c_rotaref02_Alone, [(2, none)]⟩) := by rfl
theorem e_rotaref02_is : F fn_rotaref02_is = some (.code ⟨14, c_rotaref02_is, [(4, none)]⟩) := by rfl
theorem e_rotaref09_Member_nobody : F fn_rotaref09_Member_nobody = some (.code ⟨11, c_rotaref09_Member_nobody, []⟩) := by rfl
theorem e_rotaref03_Decode : F fn_rotaref03_Decode = some (.code ⟨21, c_rotaref03_Decode, [(2, (some (some 67))), (3, none)]⟩) := by rfl
theorem e_rotaref09_Parted : F fn_rotaref09_Parted = some (.code ⟨24, c_rotaref09_Parted, [(4, none), (5, none)]⟩) := by rfl
theorem e_rotaref03_told : F fn_rotaref03_told = some (.code ⟨76, c_rotaref03_told, [(2, (some (some 67))), (3, none)]⟩) := by rfl
theorem e_rotaref03_State : F fn_rotaref03_State = some (.code ⟨30, c_rotaref03_State, [(2, none)]⟩) := by rfl
theorem e_rotaref03_sealed : F fn_rotaref03_sealed = some (.code ⟨44, c_rotaref03_sealed, [(4, none)]⟩) := by rfl
theorem e_member_Member_bits_1 : F fn_member_Member_bits_1 = some (.code ⟨18, c_member_Member_bits_1, []⟩) := by rfl
theorem e_frame_read : F fn_frame_read = some (.code ⟨40, c_frame_read, [(2, (some (some 67))), (3, none)]⟩) := by rfl
theorem e_frame_checked : F fn_frame_checked = some (.code ⟨38, c_frame_checked, [(4, none)]⟩) := by rfl
theorem e_config_within : F fn_config_within = some (.code ⟨15, c_config_within, [(6, none)]⟩) := by rfl
theorem e_slices_Contains_int_int : F fn_slices_Contains_int_int = some (.code ⟨9, c_slices_Contains_int_int, [(4, none)]⟩) := by rfl
theorem e_config_Precision : F fn_config_Precision = some (.code ⟨10, c_config_Precision, [(2, none)]⟩) := by rfl
theorem e_config_pairs : F fn_config_pairs = some (.code ⟨4, c_config_pairs, [(2, none)]⟩) := by rfl
theorem e_config_meet : F fn_config_meet = some (.code ⟨16, c_config_meet, [(8, none)]⟩) := by rfl
theorem e_config_port : F fn_config_port = some (.code ⟨19, c_config_port, [(4, (some (some 6))), (5, none)]⟩) := by rfl
theorem e_rotaref01_Sum : F fn_rotaref01_Sum = some (.code ⟨5, c_rotaref01_Sum, [(2, none)]⟩) := by rfl
theorem e_frame_number : F fn_frame_number = some (.code ⟨18, c_frame_number, [(2, none)]⟩) := by rfl
theorem e_slices_Index_int_int : F fn_slices_Index_int_int = some (.code ⟨19, c_slices_Index_int_int, [(4, none)]⟩) := by rfl
theorem e_config_pairs_1 : F fn_config_pairs_1 = some (.code ⟨20, c_config_pairs_1, []⟩) := by rfl
theorem e_rotaref01_More : F fn_rotaref01_More = some (.code ⟨25, c_rotaref01_More, [(4, none)]⟩) := by rfl
theorem e_rotaref01_steps : F fn_rotaref01_steps = some (.code ⟨18, c_rotaref01_steps, [(2, none)]⟩) := by rfl
end Go.Proofs.YtlpmganbofgdfaaDoor.AM.F09
