/- The functions of these laws as the abstract machine's code, printed by a program of this claim's. -/
import Derived.Test.YtdekplnphbjgbaaA3
set_option linter.unusedVariables false
set_option linter.unusedSimpArgs false
set_option linter.unusedSectionVars false
namespace Go.Proofs.Ytdekplnphbjgbaa.AM.D04
open Go Go.Proofs.Ytdekplnphbjgbaa.AM
abbrev fn_rotalaw04_PortLast : Nat := 3
abbrev fn_rotalaw04_PortOrder : Nat := 4
abbrev fn_rotalaw04_PortFresh : Nat := 5
abbrev fn_rotalaw04_PortPlays : Nat := 6
abbrev fn_rotalaw04_PortNames : Nat := 7
abbrev fn_rotalaw04_PortCopies : Nat := 8
abbrev fn_rotalaw04_PortRefuses : Nat := 9
abbrev fn_rotalaw04_alive : Nat := 10
abbrev fn_rotalaw04_most : Nat := 11
abbrev fn_port_New : Nat := 12
abbrev fn_port_Box_Take : Nat := 13
abbrev fn_port_Box_Len : Nat := 14
abbrev fn_port_Box_Send : Nat := 15
abbrev fn_rotalaw04_queue : Nat := 16
abbrev fn_port_Box_Recv : Nat := 17
abbrev fn_port_Box_Arrive : Nat := 18
abbrev fn_rotalaw04_sample : Nat := 19
abbrev fn_rotaref04_New : Nat := 20
abbrev fn_rotalaw04_do : Nat := 21
abbrev fn_rotalaw04_kept_still : Nat := 22
abbrev fn_port_Box_Copy : Nat := 23
abbrev fn_rotalaw04_ask : Nat := 24
abbrev fn_rotalaw04_same : Nat := 25
abbrev fn_port_kinds : Nat := 26
abbrev fn_port_Box_is : Nat := 27
abbrev fn_rotaref02_Alone : Nat := 28
abbrev fn_rotaref04_Twin : Nat := 29
abbrev fn_rotaref04_Box_Send : Nat := 30
abbrev fn_rotaref04_Box_Take : Nat := 31
abbrev fn_rotalaw04_kept_keep : Nat := 32
abbrev fn_rotaref04_Box_Arrive : Nat := 33
abbrev fn_rotaref04_Box_Recv : Nat := 34
abbrev fn_port_Box_all : Nat := 35
abbrev fn_slices_Clone_byte_byte : Nat := 36
abbrev fn_port_kinds_1 : Nat := 37
abbrev fn_port_kinds_2 : Nat := 38
abbrev fn_slices_Delete_byte_byte : Nat := 39
abbrev fn_port_kinds_3 : Nat := 40
abbrev fn_port_kinds_4 : Nat := 41
abbrev fn_port_kinds_5 : Nat := 42
abbrev fn_port_kinds_6 : Nat := 43
abbrev fn_rotaref04_Box_put : Nat := 44
abbrev fn_rotaref04_Box_get : Nat := 45
abbrev fn_slices_Values_byte_byte : Nat := 46
abbrev fn_rotaref04_twins : Nat := 47
abbrev fn_slices_Values_byte_byte_1 : Nat := 48

-- F 3 rota/rotalaw04.PortLast: bads 0, calls [10, 11, 12, 13, 14, 15, 14, 13, 13]
abbrev o_rotalaw04_PortLast_0 : List IOper := [⟨(some 4), .mv (.k (.c (.bool false))), none⟩]
abbrev o_rotalaw04_PortLast_1 : List IOper := [⟨(some 17), .call (.k (.c (.fn fn_rotalaw04_alive [] []))) [], none⟩,
  ⟨(some 5), .mv (.t 17), none⟩]
abbrev o_rotalaw04_PortLast_2 : List IOper := [⟨(some 18), .mv (.t 1), none⟩,
  ⟨(some 19), .len false (.t 18), none⟩,
  ⟨(some 20), .bin .gtr (.t 19) (.k (.c (.int .i64 500))), none⟩,
  ⟨(some 21), .mv (.t 20), none⟩,
  ⟨(some 22), .mv (.t 5), some (21, false)⟩,
  ⟨(some 23), .un .not (.t 22), some (21, false)⟩,
  ⟨(some 24), .pick (.t 21) (.k (.c (.bool true))) (.t 23), none⟩]
abbrev o_rotalaw04_PortLast_3 : List IOper := [⟨(some 25), .mv (.t 5), none⟩,
  ⟨(some 4), .mv (.t 25), none⟩]
abbrev o_rotalaw04_PortLast_4 : List IOper := [⟨(some 26), .mv (.t 0), none⟩,
  ⟨(some 27), .call (.k (.c (.fn fn_rotalaw04_most [] []))) [(.t 26), (.k (.c (.int .i64 32)))], none⟩,
  ⟨(some 6), .mv (.t 27), none⟩]
abbrev o_rotalaw04_PortLast_5 : List IOper := [⟨(some 29), .mv (.t 6), none⟩,
  ⟨(some 30), .build (List.replicate 6 (.int .i64 0)) [(1, 1, (.k (.c (.int .i64 1)))), (2, 1, (.k (.c (.int .i64 1)))), (3, 1, (.t 29))], none⟩,
  ⟨(some 31), .call (.k (.c (.fn fn_port_New [] []))) [(.t 30)], none⟩,
  ⟨(some 28), .mv (.t 31), none⟩,
  ⟨(some 32), .ext (.t 28) 0, none⟩,
  ⟨(some 33), .ext (.t 28) 1, none⟩,
  ⟨(some 7), .mv (.t 32), none⟩,
  ⟨(some 8), .mv (.t 33), none⟩]
abbrev o_rotalaw04_PortLast_6 : List IOper := [⟨(some 34), .mv (.t 8), none⟩,
  ⟨(some 35), .bin .neq (.t 34) (.k (.c (.int .i64 0))), none⟩]
abbrev o_rotalaw04_PortLast_7 : List IOper := [⟨(some 4), .mv (.k (.c (.bool false))), none⟩]
abbrev o_rotalaw04_PortLast_8 : List IOper := [⟨(some 37), .mv (.t 7), none⟩,
  ⟨(some 38), .call (.k (.c (.fn fn_port_Box_Take [] []))) [(.t 37)], none⟩,
  ⟨(some 36), .mv (.t 38), none⟩,
  ⟨(some 39), .ext (.t 36) 0, none⟩,
  ⟨(some 40), .ext (.t 36) 1, none⟩,
  ⟨(some 9), .mv (.t 39), none⟩,
  ⟨(some 10), .mv (.t 40), none⟩]
abbrev o_rotalaw04_PortLast_9 : List IOper := [⟨(some 41), .mv (.t 10), none⟩,
  ⟨(some 42), .mv (.t 41), none⟩,
  ⟨(some 43), .mv (.t 7), some (42, false)⟩,
  ⟨(some 44), .call (.k (.c (.fn fn_port_Box_Len [] []))) [(.t 43)], some (42, false)⟩,
  ⟨(some 45), .bin .neq (.t 44) (.k (.c (.int .i64 0))), some (42, false)⟩,
  ⟨(some 46), .pick (.t 42) (.k (.c (.bool true))) (.t 45), none⟩]
abbrev o_rotalaw04_PortLast_10 : List IOper := [⟨(some 4), .mv (.k (.c (.bool false))), none⟩]
abbrev o_rotalaw04_PortLast_11 : List IOper := [⟨(some 11), .mv (.k (.c (.int .i64 0))), none⟩]
abbrev o_rotalaw04_PortLast_12 : List IOper := [⟨(some 47), .mv (.t 11), none⟩,
  ⟨(some 48), .mv (.t 1), none⟩,
  ⟨(some 49), .len false (.t 48), none⟩,
  ⟨(some 50), .bin .lss (.t 47) (.t 49), none⟩]
abbrev o_rotalaw04_PortLast_13 : List IOper := [⟨(some 53), .mv (.t 6), none⟩,
  ⟨(some 54), .mksl 5 1 1 [(.int .u8 0)] (.t 53) (.t 53), none⟩,
  ⟨(some 12), .mv (.t 54), none⟩]
abbrev o_rotalaw04_PortLast_14 : List IOper := [⟨(some 55), .mv (.t 12), none⟩,
  ⟨(some 56), .mv (.t 12), none⟩,
  ⟨(some 57), .mv (.t 6), none⟩,
  ⟨(some 58), .bin .sub (.t 57) (.k (.c (.int .i64 1))), none⟩,
  ⟨(some 59), .mv (.t 1), none⟩,
  ⟨(some 60), .mv (.t 11), none⟩,
  ⟨(some 61), .iaS 1 (.t 59) (.t 60), none⟩,
  ⟨(some 62), .ld none (.t 61), none⟩,
  ⟨(some 63), .mv (.t 1), none⟩,
  ⟨(some 64), .mv (.t 11), none⟩,
  ⟨(some 65), .iaS 1 (.t 63) (.t 64), none⟩,
  ⟨(some 66), .ld none (.t 65), none⟩,
  ⟨(some 67), .iaS 1 (.t 55) (.k (.c (.int .i64 0))), none⟩,
  ⟨none, .st 1 (.t 67) (.t 62), none⟩,
  ⟨(some 68), .iaS 1 (.t 56) (.t 58), none⟩,
  ⟨none, .st 1 (.t 68) (.t 66), none⟩]
abbrev o_rotalaw04_PortLast_15 : List IOper := [⟨(some 69), .mv (.t 7), none⟩,
  ⟨(some 70), .mv (.t 12), none⟩,
  ⟨(some 71), .call (.k (.c (.fn fn_port_Box_Send [] []))) [(.t 69), (.t 70)], none⟩,
  ⟨(some 72), .bin .neq (.t 71) (.k (.c (.int .i64 0))), none⟩,
  ⟨(some 73), .mv (.t 72), none⟩,
  ⟨(some 74), .mv (.t 7), some (73, false)⟩,
  ⟨(some 75), .call (.k (.c (.fn fn_port_Box_Len [] []))) [(.t 74)], some (73, false)⟩,
  ⟨(some 76), .bin .neq (.t 75) (.k (.c (.int .i64 1))), some (73, false)⟩,
  ⟨(some 77), .pick (.t 73) (.k (.c (.bool true))) (.t 76), none⟩]
abbrev o_rotalaw04_PortLast_16 : List IOper := [⟨(some 4), .mv (.k (.c (.bool false))), none⟩]
abbrev o_rotalaw04_PortLast_17 : List IOper := [⟨(some 79), .mv (.t 7), none⟩,
  ⟨(some 80), .call (.k (.c (.fn fn_port_Box_Take [] []))) [(.t 79)], none⟩,
  ⟨(some 78), .mv (.t 80), none⟩,
  ⟨(some 81), .ext (.t 78) 0, none⟩,
  ⟨(some 82), .ext (.t 78) 1, none⟩,
  ⟨(some 13), .mv (.t 81), none⟩,
  ⟨(some 14), .mv (.t 82), none⟩]
abbrev o_rotalaw04_PortLast_18 : List IOper := [⟨(some 84), .mv (.t 7), none⟩,
  ⟨(some 85), .call (.k (.c (.fn fn_port_Box_Take [] []))) [(.t 84)], none⟩,
  ⟨(some 83), .mv (.t 85), none⟩,
  ⟨(some 86), .ext (.t 83) 0, none⟩,
  ⟨(some 87), .ext (.t 83) 1, none⟩,
  ⟨(some 15), .mv (.t 86), none⟩,
  ⟨(some 16), .mv (.t 87), none⟩]
abbrev o_rotalaw04_PortLast_19 : List IOper := [⟨(some 88), .mv (.t 14), none⟩,
  ⟨(some 89), .un .not (.t 88), none⟩,
  ⟨(some 90), .mv (.t 89), none⟩,
  ⟨(some 91), .mv (.t 16), some (90, false)⟩,
  ⟨(some 92), .un .not (.t 91), some (90, false)⟩,
  ⟨(some 93), .pick (.t 90) (.k (.c (.bool true))) (.t 92), none⟩,
  ⟨(some 94), .mv (.t 93), none⟩,
  ⟨(some 95), .mv (.t 13), some (94, false)⟩,
  ⟨(some 96), .b2s (.t 95), some (94, false)⟩,
  ⟨(some 97), .mv (.t 12), some (94, false)⟩,
  ⟨(some 98), .b2s (.t 97), some (94, false)⟩,
  ⟨(some 99), .bin .neq (.t 96) (.t 98), some (94, false)⟩,
  ⟨(some 100), .pick (.t 94) (.k (.c (.bool true))) (.t 99), none⟩,
  ⟨(some 101), .mv (.t 100), none⟩,
  ⟨(some 102), .mv (.t 15), some (101, false)⟩,
  ⟨(some 103), .b2s (.t 102), some (101, false)⟩,
  ⟨(some 104), .mv (.t 12), some (101, false)⟩,
  ⟨(some 105), .b2s (.t 104), some (101, false)⟩,
  ⟨(some 106), .bin .neq (.t 103) (.t 105), some (101, false)⟩,
  ⟨(some 107), .pick (.t 101) (.k (.c (.bool true))) (.t 106), none⟩]
abbrev o_rotalaw04_PortLast_20 : List IOper := [⟨(some 4), .mv (.k (.c (.bool false))), none⟩]
abbrev o_rotalaw04_PortLast_21 : List IOper := [⟨(some 51), .mv (.t 11), none⟩,
  ⟨(some 52), .bin .add (.t 51) (.k (.c (.int .i64 1))), none⟩,
  ⟨(some 11), .mv (.t 52), none⟩]
def b_rotalaw04_PortLast_22 : IC := (.seq (.seq (.ops o_rotalaw04_PortLast_12) (.cond (.t 50) .skip (.exit 0))) (.seq (.block 1 (.seq (.ops o_rotalaw04_PortLast_13) (.seq (.ops o_rotalaw04_PortLast_14) (.seq (.seq (.ops o_rotalaw04_PortLast_15) (.cond (.t 77) (.seq (.ops o_rotalaw04_PortLast_16) .ret) .skip)) (.seq (.ops o_rotalaw04_PortLast_17) (.seq (.ops o_rotalaw04_PortLast_18) (.seq (.ops o_rotalaw04_PortLast_19) (.cond (.t 107) (.seq (.ops o_rotalaw04_PortLast_20) .ret) .skip)))))))) (.ops o_rotalaw04_PortLast_21)))
abbrev o_rotalaw04_PortLast_23 : List IOper := [⟨(some 108), .mv (.t 5), none⟩,
  ⟨(some 4), .mv (.t 108), none⟩]
def c_rotalaw04_PortLast : IC := (.seq (.ops o_rotalaw04_PortLast_0) (.seq (.ops o_rotalaw04_PortLast_1) (.seq (.seq (.ops o_rotalaw04_PortLast_2) (.cond (.t 24) (.seq (.ops o_rotalaw04_PortLast_3) .ret) .skip)) (.seq (.ops o_rotalaw04_PortLast_4) (.seq (.ops o_rotalaw04_PortLast_5) (.seq (.seq (.ops o_rotalaw04_PortLast_6) (.cond (.t 35) (.seq (.ops o_rotalaw04_PortLast_7) .ret) .skip)) (.seq (.ops o_rotalaw04_PortLast_8) (.seq (.seq (.ops o_rotalaw04_PortLast_9) (.cond (.t 46) (.seq (.ops o_rotalaw04_PortLast_10) .ret) .skip)) (.seq (.seq (.ops o_rotalaw04_PortLast_11) (.block 0 (.loop b_rotalaw04_PortLast_22))) (.seq (.ops o_rotalaw04_PortLast_23) .ret))))))))))
def i_rotalaw04_PortLast : IFn := ⟨109, c_rotalaw04_PortLast, [(4, none)]⟩

-- F 4 rota/rotalaw04.PortOrder: bads 0, calls [10, 11, 16, 12, 16, 12, 13, 17, 17, 15, 18, 14, 14]
abbrev o_rotalaw04_PortOrder_0 : List IOper := [⟨(some 6), .mv (.k (.c (.bool false))), none⟩]
abbrev o_rotalaw04_PortOrder_1 : List IOper := [⟨(some 26), .call (.k (.c (.fn fn_rotalaw04_alive [] []))) [], none⟩,
  ⟨(some 7), .mv (.t 26), none⟩]
abbrev o_rotalaw04_PortOrder_2 : List IOper := [⟨(some 27), .mv (.t 1), none⟩,
  ⟨(some 28), .len false (.t 27), none⟩,
  ⟨(some 29), .bin .gtr (.t 28) (.k (.c (.int .i64 1000))), none⟩,
  ⟨(some 30), .mv (.t 29), none⟩,
  ⟨(some 31), .mv (.t 7), some (30, false)⟩,
  ⟨(some 32), .un .not (.t 31), some (30, false)⟩,
  ⟨(some 33), .pick (.t 30) (.k (.c (.bool true))) (.t 32), none⟩]
abbrev o_rotalaw04_PortOrder_3 : List IOper := [⟨(some 34), .mv (.t 7), none⟩,
  ⟨(some 6), .mv (.t 34), none⟩]
abbrev o_rotalaw04_PortOrder_4 : List IOper := [⟨(some 35), .mv (.t 0), none⟩,
  ⟨(some 36), .call (.k (.c (.fn fn_rotalaw04_most [] []))) [(.t 35), (.k (.c (.int .i64 8)))], none⟩,
  ⟨(some 8), .mv (.t 36), none⟩]
abbrev o_rotalaw04_PortOrder_5 : List IOper := [⟨(some 38), .mv (.t 8), none⟩,
  ⟨(some 39), .call (.k (.c (.fn fn_rotalaw04_queue [] []))) [(.k (.c (.int .i64 1))), (.k (.c (.int .i64 2))), (.t 38)], none⟩,
  ⟨(some 40), .call (.k (.c (.fn fn_port_New [] []))) [(.t 39)], none⟩,
  ⟨(some 37), .mv (.t 40), none⟩,
  ⟨(some 41), .ext (.t 37) 0, none⟩,
  ⟨(some 42), .ext (.t 37) 1, none⟩,
  ⟨(some 9), .mv (.t 41), none⟩,
  ⟨(some 10), .mv (.t 42), none⟩]
abbrev o_rotalaw04_PortOrder_6 : List IOper := [⟨(some 44), .mv (.t 8), none⟩,
  ⟨(some 45), .call (.k (.c (.fn fn_rotalaw04_queue [] []))) [(.k (.c (.int .i64 2))), (.k (.c (.int .i64 2))), (.t 44)], none⟩,
  ⟨(some 46), .call (.k (.c (.fn fn_port_New [] []))) [(.t 45)], none⟩,
  ⟨(some 43), .mv (.t 46), none⟩,
  ⟨(some 47), .ext (.t 43) 0, none⟩,
  ⟨(some 48), .ext (.t 43) 1, none⟩,
  ⟨(some 11), .mv (.t 47), none⟩,
  ⟨(some 12), .mv (.t 48), none⟩]
abbrev o_rotalaw04_PortOrder_7 : List IOper := [⟨(some 13), .mv (.k (.c (.sl none 0 0 false))), none⟩]
abbrev o_rotalaw04_PortOrder_8 : List IOper := [⟨(some 14), .mv (.k (.c (.bool false))), none⟩]
abbrev o_rotalaw04_PortOrder_9 : List IOper := [⟨(some 15), .mv (.k (.c (.int .i64 0))), none⟩]
abbrev o_rotalaw04_PortOrder_10 : List IOper := [⟨(some 49), .mv (.t 15), none⟩,
  ⟨(some 50), .mv (.t 1), none⟩,
  ⟨(some 51), .len false (.t 50), none⟩,
  ⟨(some 52), .bin .leq (.t 49) (.t 51), none⟩]
abbrev o_rotalaw04_PortOrder_11 : List IOper := [⟨(some 55), .mv (.t 15), none⟩,
  ⟨(some 56), .mv (.t 2), none⟩,
  ⟨(some 57), .len false (.t 56), none⟩,
  ⟨(some 58), .bin .lss (.t 55) (.t 57), none⟩,
  ⟨(some 59), .mv (.t 58), none⟩,
  ⟨(some 60), .mv (.t 2), some (59, true)⟩,
  ⟨(some 61), .mv (.t 15), some (59, true)⟩,
  ⟨(some 62), .iaS 1 (.t 60) (.t 61), some (59, true)⟩,
  ⟨(some 63), .ld none (.t 62), some (59, true)⟩,
  ⟨(some 64), .pick (.t 59) (.t 63) (.k (.c (.bool false))), none⟩,
  ⟨(some 65), .mv (.t 64), none⟩,
  ⟨(some 66), .mv (.t 15), some (65, false)⟩,
  ⟨(some 67), .mv (.t 1), some (65, false)⟩,
  ⟨(some 68), .len false (.t 67), some (65, false)⟩,
  ⟨(some 69), .bin .eql (.t 66) (.t 68), some (65, false)⟩,
  ⟨(some 70), .mv (.t 69), some (65, false)⟩,
  ⟨(some 71), .mv (.t 13), some (70, true)⟩,
  ⟨(some 72), .len false (.t 71), some (70, true)⟩,
  ⟨(some 73), .bin .gtr (.t 72) (.k (.c (.int .i64 0))), some (70, true)⟩,
  ⟨(some 74), .mv (.t 73), some (70, true)⟩,
  ⟨(some 75), .mv (.t 14), some (74, false)⟩,
  ⟨(some 76), .pick (.t 74) (.k (.c (.bool true))) (.t 75), some (70, true)⟩,
  ⟨(some 77), .pick (.t 70) (.t 76) (.k (.c (.bool false))), some (65, false)⟩,
  ⟨(some 78), .pick (.t 65) (.k (.c (.bool true))) (.t 77), none⟩]
abbrev o_rotalaw04_PortOrder_12 : List IOper := [⟨(some 80), .mv (.t 9), none⟩,
  ⟨(some 81), .call (.k (.c (.fn fn_port_Box_Take [] []))) [(.t 80)], none⟩,
  ⟨(some 79), .mv (.t 81), none⟩,
  ⟨(some 82), .ext (.t 79) 0, none⟩,
  ⟨(some 83), .ext (.t 79) 1, none⟩,
  ⟨(some 16), .mv (.t 82), none⟩,
  ⟨(some 17), .mv (.t 83), none⟩]
abbrev o_rotalaw04_PortOrder_13 : List IOper := [⟨(some 84), .mv (.t 14), none⟩]
abbrev o_rotalaw04_PortOrder_14 : List IOper := [⟨(some 86), .mv (.t 11), none⟩,
  ⟨(some 87), .mv (.t 15), none⟩,
  ⟨(some 88), .call (.k (.c (.fn fn_port_Box_Recv [] []))) [(.t 86), (.t 87)], none⟩,
  ⟨(some 85), .mv (.t 88), none⟩,
  ⟨(some 89), .ext (.t 85) 0, none⟩,
  ⟨(some 90), .ext (.t 85) 1, none⟩,
  ⟨(some 18), .mv (.t 89), none⟩,
  ⟨(some 19), .mv (.t 90), none⟩]
abbrev o_rotalaw04_PortOrder_15 : List IOper := [⟨(some 91), .mv (.t 19), none⟩,
  ⟨(some 92), .bin .neq (.t 91) (.k (.c (.int .i64 44))), none⟩,
  ⟨(some 93), .mv (.t 92), none⟩,
  ⟨(some 94), .mv (.t 18), some (93, false)⟩,
  ⟨(some 95), .len false (.t 94), some (93, false)⟩,
  ⟨(some 96), .bin .neq (.t 95) (.k (.c (.int .i64 0))), some (93, false)⟩,
  ⟨(some 97), .pick (.t 93) (.k (.c (.bool true))) (.t 96), none⟩]
abbrev o_rotalaw04_PortOrder_16 : List IOper := [⟨(some 6), .mv (.k (.c (.bool false))), none⟩]
abbrev o_rotalaw04_PortOrder_17 : List IOper := [⟨(some 14), .mv (.k (.c (.bool false))), none⟩]
abbrev o_rotalaw04_PortOrder_18 : List IOper := [⟨(some 99), .mv (.t 11), none⟩,
  ⟨(some 100), .mv (.t 15), none⟩,
  ⟨(some 101), .call (.k (.c (.fn fn_port_Box_Recv [] []))) [(.t 99), (.t 100)], none⟩,
  ⟨(some 98), .mv (.t 101), none⟩,
  ⟨(some 102), .ext (.t 98) 0, none⟩,
  ⟨(some 103), .ext (.t 98) 1, none⟩,
  ⟨(some 20), .mv (.t 102), none⟩,
  ⟨(some 21), .mv (.t 103), none⟩]
abbrev o_rotalaw04_PortOrder_19 : List IOper := [⟨(some 104), .mv (.t 17), none⟩,
  ⟨(some 105), .mv (.t 13), none⟩,
  ⟨(some 106), .len false (.t 105), none⟩,
  ⟨(some 107), .bin .gtr (.t 106) (.k (.c (.int .i64 0))), none⟩,
  ⟨(some 108), .eq .bool true (.t 104) (.t 107), none⟩,
  ⟨(some 109), .mv (.t 108), none⟩,
  ⟨(some 110), .mv (.t 21), some (109, false)⟩,
  ⟨(some 111), .bin .eql (.t 110) (.k (.c (.int .i64 0))), some (109, false)⟩,
  ⟨(some 112), .mv (.t 17), some (109, false)⟩,
  ⟨(some 113), .eq .bool true (.t 111) (.t 112), some (109, false)⟩,
  ⟨(some 114), .pick (.t 109) (.k (.c (.bool true))) (.t 113), none⟩,
  ⟨(some 115), .mv (.t 114), none⟩,
  ⟨(some 116), .mv (.t 17), some (115, false)⟩,
  ⟨(some 117), .un .not (.t 116), some (115, false)⟩,
  ⟨(some 118), .mv (.t 117), some (115, false)⟩,
  ⟨(some 119), .mv (.t 21), some (118, true)⟩,
  ⟨(some 120), .bin .neq (.t 119) (.k (.c (.int .i64 42))), some (118, true)⟩,
  ⟨(some 121), .pick (.t 118) (.t 120) (.k (.c (.bool false))), some (115, false)⟩,
  ⟨(some 122), .pick (.t 115) (.k (.c (.bool true))) (.t 121), none⟩,
  ⟨(some 123), .mv (.t 122), none⟩,
  ⟨(some 124), .mv (.t 16), some (123, false)⟩,
  ⟨(some 125), .b2s (.t 124), some (123, false)⟩,
  ⟨(some 126), .mv (.t 20), some (123, false)⟩,
  ⟨(some 127), .b2s (.t 126), some (123, false)⟩,
  ⟨(some 128), .bin .neq (.t 125) (.t 127), some (123, false)⟩,
  ⟨(some 129), .pick (.t 123) (.k (.c (.bool true))) (.t 128), none⟩]
abbrev o_rotalaw04_PortOrder_20 : List IOper := [⟨(some 6), .mv (.k (.c (.bool false))), none⟩]
abbrev o_rotalaw04_PortOrder_21 : List IOper := [⟨(some 130), .mv (.t 17), none⟩,
  ⟨(some 131), .un .not (.t 130), none⟩]
abbrev o_rotalaw04_PortOrder_22 : List IOper := [⟨(some 132), .mv (.t 16), none⟩,
  ⟨(some 133), .len false (.t 132), none⟩,
  ⟨(some 134), .bin .neq (.t 133) (.k (.c (.int .i64 2))), none⟩,
  ⟨(some 135), .mv (.t 134), none⟩,
  ⟨(some 136), .mv (.t 16), some (135, false)⟩,
  ⟨(some 137), .iaS 1 (.t 136) (.k (.c (.int .i64 0))), some (135, false)⟩,
  ⟨(some 138), .ld none (.t 137), some (135, false)⟩,
  ⟨(some 139), .mv (.t 13), some (135, false)⟩,
  ⟨(some 140), .iaS 1 (.t 139) (.k (.c (.int .i64 0))), some (135, false)⟩,
  ⟨(some 141), .ld none (.t 140), some (135, false)⟩,
  ⟨(some 142), .bin .neq (.t 138) (.t 141), some (135, false)⟩,
  ⟨(some 143), .pick (.t 135) (.k (.c (.bool true))) (.t 142), none⟩,
  ⟨(some 144), .mv (.t 143), none⟩,
  ⟨(some 145), .mv (.t 16), some (144, false)⟩,
  ⟨(some 146), .iaS 1 (.t 145) (.k (.c (.int .i64 1))), some (144, false)⟩,
  ⟨(some 147), .ld none (.t 146), some (144, false)⟩,
  ⟨(some 148), .mv (.t 13), some (144, false)⟩,
  ⟨(some 149), .iaS 1 (.t 148) (.k (.c (.int .i64 0))), some (144, false)⟩,
  ⟨(some 150), .ld none (.t 149), some (144, false)⟩,
  ⟨(some 151), .un .xor (.t 150), some (144, false)⟩,
  ⟨(some 152), .bin .neq (.t 147) (.t 151), some (144, false)⟩,
  ⟨(some 153), .pick (.t 144) (.k (.c (.bool true))) (.t 152), none⟩]
abbrev o_rotalaw04_PortOrder_23 : List IOper := [⟨(some 6), .mv (.k (.c (.bool false))), none⟩]
abbrev o_rotalaw04_PortOrder_24 : List IOper := [⟨(some 154), .mv (.t 13), none⟩,
  ⟨(some 155), .slS 1 (.t 154) (some (.k (.c (.int .i64 1)))) none none, none⟩,
  ⟨(some 13), .mv (.t 155), none⟩]
abbrev o_rotalaw04_PortOrder_25 : List IOper := [⟨(some 156), .mv (.t 15), none⟩,
  ⟨(some 157), .mv (.t 1), none⟩,
  ⟨(some 158), .len false (.t 157), none⟩,
  ⟨(some 159), .bin .lss (.t 156) (.t 158), none⟩]
def b_rotalaw04_PortOrder_26 : IC := (.seq (.seq (.ops o_rotalaw04_PortOrder_11) (.cond (.t 78) .skip (.exit 2))) (.block 3 (.seq (.ops o_rotalaw04_PortOrder_12) (.seq (.seq (.ops o_rotalaw04_PortOrder_13) (.cond (.t 84) (.seq (.ops o_rotalaw04_PortOrder_14) (.seq (.seq (.ops o_rotalaw04_PortOrder_15) (.cond (.t 97) (.seq (.ops o_rotalaw04_PortOrder_16) .ret) .skip)) (.ops o_rotalaw04_PortOrder_17))) .skip)) (.seq (.ops o_rotalaw04_PortOrder_18) (.seq (.seq (.ops o_rotalaw04_PortOrder_19) (.cond (.t 129) (.seq (.ops o_rotalaw04_PortOrder_20) .ret) .skip)) (.seq (.seq (.ops o_rotalaw04_PortOrder_21) (.cond (.t 131) (.exit 2) .skip)) (.seq (.seq (.ops o_rotalaw04_PortOrder_22) (.cond (.t 153) (.seq (.ops o_rotalaw04_PortOrder_23) .ret) .skip)) (.seq (.ops o_rotalaw04_PortOrder_24) (.seq (.ops o_rotalaw04_PortOrder_25) (.cond (.t 159) (.exit 2) .skip)))))))))))
abbrev o_rotalaw04_PortOrder_27 : List IOper := [⟨(some 160), .mv (.t 15), none⟩,
  ⟨(some 161), .mv (.t 1), none⟩,
  ⟨(some 162), .len false (.t 161), none⟩,
  ⟨(some 163), .bin .eql (.t 160) (.t 162), none⟩]
abbrev o_rotalaw04_PortOrder_28 : List IOper := [⟨(some 164), .mv (.t 1), none⟩,
  ⟨(some 165), .mv (.t 15), none⟩,
  ⟨(some 166), .iaS 1 (.t 164) (.t 165), none⟩,
  ⟨(some 167), .ld none (.t 166), none⟩,
  ⟨(some 168), .mv (.t 1), none⟩,
  ⟨(some 169), .mv (.t 15), none⟩,
  ⟨(some 170), .iaS 1 (.t 168) (.t 169), none⟩,
  ⟨(some 171), .ld none (.t 170), none⟩,
  ⟨(some 172), .un .xor (.t 171), none⟩,
  ⟨(some 173), .bsl 5 2 [(.int .u8 0), (.int .u8 0)] [(0, 1, (.t 167)), (1, 1, (.t 172))], none⟩,
  ⟨(some 22), .mv (.t 173), none⟩]
abbrev o_rotalaw04_PortOrder_29 : List IOper := [⟨(some 174), .mv (.t 9), none⟩,
  ⟨(some 175), .mv (.t 22), none⟩,
  ⟨(some 176), .call (.k (.c (.fn fn_port_Box_Send [] []))) [(.t 174), (.t 175)], none⟩,
  ⟨(some 177), .mv (.t 11), none⟩,
  ⟨(some 178), .mv (.t 22), none⟩,
  ⟨(some 179), .mv (.t 15), none⟩,
  ⟨(some 180), .call (.k (.c (.fn fn_port_Box_Arrive [] []))) [(.t 177), (.t 178), (.t 179)], none⟩,
  ⟨(some 23), .mv (.t 176), none⟩,
  ⟨(some 24), .mv (.t 180), none⟩]
abbrev o_rotalaw04_PortOrder_30 : List IOper := [⟨(some 181), .mv (.t 13), none⟩,
  ⟨(some 182), .len false (.t 181), none⟩,
  ⟨(some 183), .mv (.t 8), none⟩,
  ⟨(some 184), .bin .eql (.t 182) (.t 183), none⟩,
  ⟨(some 25), .mv (.t 184), none⟩]
abbrev o_rotalaw04_PortOrder_31 : List IOper := [⟨(some 185), .mv (.t 25), none⟩,
  ⟨(some 186), .mv (.t 23), none⟩,
  ⟨(some 187), .bin .eql (.t 186) (.k (.c (.int .i64 41))), none⟩,
  ⟨(some 188), .eq .bool true (.t 185) (.t 187), none⟩,
  ⟨(some 189), .mv (.t 188), none⟩,
  ⟨(some 190), .mv (.t 25), some (189, false)⟩,
  ⟨(some 191), .mv (.t 24), some (189, false)⟩,
  ⟨(some 192), .bin .eql (.t 191) (.k (.c (.int .i64 41))), some (189, false)⟩,
  ⟨(some 193), .eq .bool true (.t 190) (.t 192), some (189, false)⟩,
  ⟨(some 194), .pick (.t 189) (.k (.c (.bool true))) (.t 193), none⟩,
  ⟨(some 195), .mv (.t 194), none⟩,
  ⟨(some 196), .mv (.t 25), some (195, false)⟩,
  ⟨(some 197), .un .not (.t 196), some (195, false)⟩,
  ⟨(some 198), .mv (.t 197), some (195, false)⟩,
  ⟨(some 199), .mv (.t 23), some (198, true)⟩,
  ⟨(some 200), .bin .neq (.t 199) (.k (.c (.int .i64 0))), some (198, true)⟩,
  ⟨(some 201), .mv (.t 200), some (198, true)⟩,
  ⟨(some 202), .mv (.t 24), some (201, false)⟩,
  ⟨(some 203), .bin .neq (.t 202) (.k (.c (.int .i64 0))), some (201, false)⟩,
  ⟨(some 204), .pick (.t 201) (.k (.c (.bool true))) (.t 203), some (198, true)⟩,
  ⟨(some 205), .pick (.t 198) (.t 204) (.k (.c (.bool false))), some (195, false)⟩,
  ⟨(some 206), .pick (.t 195) (.k (.c (.bool true))) (.t 205), none⟩]
abbrev o_rotalaw04_PortOrder_32 : List IOper := [⟨(some 6), .mv (.k (.c (.bool false))), none⟩]
abbrev o_rotalaw04_PortOrder_33 : List IOper := [⟨(some 207), .mv (.t 14), none⟩,
  ⟨(some 208), .mv (.t 207), none⟩,
  ⟨(some 209), .mv (.t 25), some (208, false)⟩,
  ⟨(some 210), .pick (.t 208) (.k (.c (.bool true))) (.t 209), none⟩,
  ⟨(some 14), .mv (.t 210), none⟩]
abbrev o_rotalaw04_PortOrder_34 : List IOper := [⟨(some 211), .mv (.t 25), none⟩,
  ⟨(some 212), .un .not (.t 211), none⟩]
abbrev o_rotalaw04_PortOrder_35 : List IOper := [⟨(some 213), .mv (.t 13), none⟩,
  ⟨(some 214), .mv (.t 1), none⟩,
  ⟨(some 215), .mv (.t 15), none⟩,
  ⟨(some 216), .iaS 1 (.t 214) (.t 215), none⟩,
  ⟨(some 217), .ld none (.t 216), none⟩,
  ⟨(some 218), .bsl 5 1 [(.int .u8 0)] [(0, 1, (.t 217))], none⟩,
  ⟨(some 219), .app 5 1 1 (.t 213) (.t 218), none⟩,
  ⟨(some 13), .mv (.t 219), none⟩]
abbrev o_rotalaw04_PortOrder_36 : List IOper := [⟨(some 53), .mv (.t 15), none⟩,
  ⟨(some 54), .bin .add (.t 53) (.k (.c (.int .i64 1))), none⟩,
  ⟨(some 15), .mv (.t 54), none⟩]
def b_rotalaw04_PortOrder_37 : IC := (.seq (.seq (.ops o_rotalaw04_PortOrder_10) (.cond (.t 52) .skip (.exit 0))) (.seq (.block 1 (.seq (.block 2 (.loop b_rotalaw04_PortOrder_26)) (.seq (.seq (.ops o_rotalaw04_PortOrder_27) (.cond (.t 163) (.exit 0) .skip)) (.seq (.ops o_rotalaw04_PortOrder_28) (.seq (.ops o_rotalaw04_PortOrder_29) (.seq (.ops o_rotalaw04_PortOrder_30) (.seq (.seq (.ops o_rotalaw04_PortOrder_31) (.cond (.t 206) (.seq (.ops o_rotalaw04_PortOrder_32) .ret) .skip)) (.seq (.ops o_rotalaw04_PortOrder_33) (.seq (.ops o_rotalaw04_PortOrder_34) (.cond (.t 212) (.ops o_rotalaw04_PortOrder_35) .skip)))))))))) (.ops o_rotalaw04_PortOrder_36)))
abbrev o_rotalaw04_PortOrder_38 : List IOper := [⟨(some 220), .mv (.t 7), none⟩,
  ⟨(some 221), .mv (.t 220), none⟩,
  ⟨(some 222), .mv (.t 9), some (221, true)⟩,
  ⟨(some 223), .call (.k (.c (.fn fn_port_Box_Len [] []))) [(.t 222)], some (221, true)⟩,
  ⟨(some 224), .bin .eql (.t 223) (.k (.c (.int .i64 0))), some (221, true)⟩,
  ⟨(some 225), .pick (.t 221) (.t 224) (.k (.c (.bool false))), none⟩,
  ⟨(some 226), .mv (.t 225), none⟩,
  ⟨(some 227), .mv (.t 11), some (226, true)⟩,
  ⟨(some 228), .call (.k (.c (.fn fn_port_Box_Len [] []))) [(.t 227)], some (226, true)⟩,
  ⟨(some 229), .bin .eql (.t 228) (.k (.c (.int .i64 0))), some (226, true)⟩,
  ⟨(some 230), .pick (.t 226) (.t 229) (.k (.c (.bool false))), none⟩,
  ⟨(some 6), .mv (.t 230), none⟩]
def c_rotalaw04_PortOrder : IC := (.seq (.ops o_rotalaw04_PortOrder_0) (.seq (.ops o_rotalaw04_PortOrder_1) (.seq (.seq (.ops o_rotalaw04_PortOrder_2) (.cond (.t 33) (.seq (.ops o_rotalaw04_PortOrder_3) .ret) .skip)) (.seq (.ops o_rotalaw04_PortOrder_4) (.seq (.ops o_rotalaw04_PortOrder_5) (.seq (.ops o_rotalaw04_PortOrder_6) (.seq (.ops o_rotalaw04_PortOrder_7) (.seq (.ops o_rotalaw04_PortOrder_8) (.seq (.seq (.ops o_rotalaw04_PortOrder_9) (.block 0 (.loop b_rotalaw04_PortOrder_37))) (.seq (.ops o_rotalaw04_PortOrder_38) .ret))))))))))
def i_rotalaw04_PortOrder : IFn := ⟨231, c_rotalaw04_PortOrder, [(6, none)]⟩

-- F 5 rota/rotalaw04.PortFresh: bads 0, calls [10, 19, 12, 18, 14, 17, 17, 17, 14]
abbrev o_rotalaw04_PortFresh_0 : List IOper := [⟨(some 6), .mv (.k (.c (.bool false))), none⟩]
abbrev o_rotalaw04_PortFresh_1 : List IOper := [⟨(some 22), .call (.k (.c (.fn fn_rotalaw04_alive [] []))) [], none⟩,
  ⟨(some 7), .mv (.t 22), none⟩]
abbrev o_rotalaw04_PortFresh_2 : List IOper := [⟨(some 23), .mv (.t 1), none⟩,
  ⟨(some 24), .len false (.t 23), none⟩,
  ⟨(some 25), .bin .gtr (.t 24) (.k (.c (.int .i64 1000))), none⟩,
  ⟨(some 26), .mv (.t 25), none⟩,
  ⟨(some 27), .mv (.t 2), some (26, false)⟩,
  ⟨(some 28), .len false (.t 27), some (26, false)⟩,
  ⟨(some 29), .bin .gtr (.t 28) (.k (.c (.int .i64 1000))), some (26, false)⟩,
  ⟨(some 30), .pick (.t 26) (.k (.c (.bool true))) (.t 29), none⟩,
  ⟨(some 31), .mv (.t 30), none⟩,
  ⟨(some 32), .mv (.t 7), some (31, false)⟩,
  ⟨(some 33), .un .not (.t 32), some (31, false)⟩,
  ⟨(some 34), .pick (.t 31) (.k (.c (.bool true))) (.t 33), none⟩]
abbrev o_rotalaw04_PortFresh_3 : List IOper := [⟨(some 35), .mv (.t 7), none⟩,
  ⟨(some 6), .mv (.t 35), none⟩]
abbrev o_rotalaw04_PortFresh_4 : List IOper := [⟨(some 36), .mv (.t 0), none⟩,
  ⟨(some 37), .cv .i64 (.t 36), none⟩,
  ⟨(some 38), .bin .rem (.t 37) (.k (.c (.int .i64 65535))), none⟩,
  ⟨(some 39), .bin .add (.k (.c (.int .i64 1))) (.t 38), none⟩,
  ⟨(some 8), .mv (.t 39), none⟩]
abbrev o_rotalaw04_PortFresh_5 : List IOper := [⟨(some 41), .mv (.t 8), none⟩,
  ⟨(some 42), .call (.k (.c (.fn fn_rotalaw04_sample [] []))) [(.k (.c (.int .i64 2))), (.t 41)], none⟩,
  ⟨(some 43), .call (.k (.c (.fn fn_port_New [] []))) [(.t 42)], none⟩,
  ⟨(some 40), .mv (.t 43), none⟩,
  ⟨(some 44), .ext (.t 40) 0, none⟩,
  ⟨(some 45), .ext (.t 40) 1, none⟩,
  ⟨(some 9), .mv (.t 44), none⟩,
  ⟨(some 10), .mv (.t 45), none⟩]
abbrev o_rotalaw04_PortFresh_6 : List IOper := [⟨(some 46), .mv (.t 10), none⟩,
  ⟨(some 47), .bin .neq (.t 46) (.k (.c (.int .i64 0))), none⟩]
abbrev o_rotalaw04_PortFresh_7 : List IOper := [⟨(some 6), .mv (.k (.c (.bool false))), none⟩]
abbrev o_rotalaw04_PortFresh_8 : List IOper := [⟨(some 11), .mv (.k (.c (.int .i64 0))), none⟩]
abbrev o_rotalaw04_PortFresh_9 : List IOper := [⟨(some 48), .mv (.t 11), none⟩,
  ⟨(some 49), .mv (.t 1), none⟩,
  ⟨(some 50), .len false (.t 49), none⟩,
  ⟨(some 51), .bin .lss (.t 48) (.t 50), none⟩]
abbrev o_rotalaw04_PortFresh_10 : List IOper := [⟨(some 54), .mv (.t 1), none⟩,
  ⟨(some 55), .mv (.t 11), none⟩,
  ⟨(some 56), .iaS 1 (.t 54) (.t 55), none⟩,
  ⟨(some 57), .ld none (.t 56), none⟩,
  ⟨(some 58), .cv .i64 (.t 57), none⟩,
  ⟨(some 12), .mv (.t 58), none⟩]
abbrev o_rotalaw04_PortFresh_11 : List IOper := [⟨(some 59), .mv (.t 11), none⟩,
  ⟨(some 60), .cv .u8 (.t 59), none⟩,
  ⟨(some 61), .mv (.t 11), none⟩,
  ⟨(some 62), .bin .quo (.t 61) (.k (.c (.int .i64 256))), none⟩,
  ⟨(some 63), .cv .u8 (.t 62), none⟩,
  ⟨(some 64), .bsl 5 2 [(.int .u8 0), (.int .u8 0)] [(0, 1, (.t 60)), (1, 1, (.t 63))], none⟩,
  ⟨(some 13), .mv (.t 64), none⟩]
abbrev o_rotalaw04_PortFresh_12 : List IOper := [⟨(some 65), .mv (.t 9), none⟩,
  ⟨(some 66), .mv (.t 13), none⟩,
  ⟨(some 67), .mv (.t 12), none⟩,
  ⟨(some 68), .call (.k (.c (.fn fn_port_Box_Arrive [] []))) [(.t 65), (.t 66), (.t 67)], none⟩,
  ⟨(some 69), .bin .neq (.t 68) (.k (.c (.int .i64 0))), none⟩,
  ⟨(some 70), .mv (.t 69), none⟩,
  ⟨(some 71), .mv (.t 9), some (70, false)⟩,
  ⟨(some 72), .call (.k (.c (.fn fn_port_Box_Len [] []))) [(.t 71)], some (70, false)⟩,
  ⟨(some 73), .bin .neq (.t 72) (.k (.c (.int .i64 1))), some (70, false)⟩,
  ⟨(some 74), .pick (.t 70) (.k (.c (.bool true))) (.t 73), none⟩]
abbrev o_rotalaw04_PortFresh_13 : List IOper := [⟨(some 6), .mv (.k (.c (.bool false))), none⟩]
abbrev o_rotalaw04_PortFresh_14 : List IOper := [⟨(some 14), .mv (.k (.c (.int .i64 0))), none⟩]
abbrev o_rotalaw04_PortFresh_15 : List IOper := [⟨(some 75), .mv (.t 14), none⟩,
  ⟨(some 76), .bin .lss (.t 75) (.k (.c (.int .i64 2))), none⟩,
  ⟨(some 77), .mv (.t 76), none⟩,
  ⟨(some 78), .mv (.t 11), some (77, true)⟩,
  ⟨(some 79), .mv (.t 2), some (77, true)⟩,
  ⟨(some 80), .len false (.t 79), some (77, true)⟩,
  ⟨(some 81), .bin .lss (.t 78) (.t 80), some (77, true)⟩,
  ⟨(some 82), .pick (.t 77) (.t 81) (.k (.c (.bool false))), none⟩]
abbrev o_rotalaw04_PortFresh_16 : List IOper := [⟨(some 85), .mv (.t 2), none⟩,
  ⟨(some 86), .mv (.t 11), none⟩,
  ⟨(some 87), .iaS 1 (.t 85) (.t 86), none⟩,
  ⟨(some 88), .ld none (.t 87), none⟩,
  ⟨(some 89), .cv .i64 (.t 88), none⟩,
  ⟨(some 15), .mv (.t 89), none⟩]
abbrev o_rotalaw04_PortFresh_17 : List IOper := [⟨(some 91), .mv (.t 9), none⟩,
  ⟨(some 92), .mv (.t 15), none⟩,
  ⟨(some 93), .call (.k (.c (.fn fn_port_Box_Recv [] []))) [(.t 91), (.t 92)], none⟩,
  ⟨(some 90), .mv (.t 93), none⟩,
  ⟨(some 94), .ext (.t 90) 0, none⟩,
  ⟨(some 95), .ext (.t 90) 1, none⟩,
  ⟨(some 16), .mv (.t 94), none⟩,
  ⟨(some 17), .mv (.t 95), none⟩]
abbrev o_rotalaw04_PortFresh_18 : List IOper := [⟨(some 96), .mv (.t 15), none⟩,
  ⟨(some 97), .mv (.t 12), none⟩,
  ⟨(some 98), .bin .sub (.t 96) (.t 97), none⟩,
  ⟨(some 99), .mv (.t 8), none⟩,
  ⟨(some 100), .bin .geq (.t 98) (.t 99), none⟩,
  ⟨(some 101), .mv (.t 100), none⟩,
  ⟨(some 102), .mv (.t 17), some (101, true)⟩,
  ⟨(some 103), .bin .neq (.t 102) (.k (.c (.int .i64 43))), some (101, true)⟩,
  ⟨(some 104), .mv (.t 103), some (101, true)⟩,
  ⟨(some 105), .mv (.t 16), some (104, false)⟩,
  ⟨(some 106), .len false (.t 105), some (104, false)⟩,
  ⟨(some 107), .bin .neq (.t 106) (.k (.c (.int .i64 0))), some (104, false)⟩,
  ⟨(some 108), .pick (.t 104) (.k (.c (.bool true))) (.t 107), some (101, true)⟩,
  ⟨(some 109), .pick (.t 101) (.t 108) (.k (.c (.bool false))), none⟩,
  ⟨(some 110), .mv (.t 109), none⟩,
  ⟨(some 111), .mv (.t 15), some (110, false)⟩,
  ⟨(some 112), .mv (.t 12), some (110, false)⟩,
  ⟨(some 113), .bin .sub (.t 111) (.t 112), some (110, false)⟩,
  ⟨(some 114), .mv (.t 8), some (110, false)⟩,
  ⟨(some 115), .bin .lss (.t 113) (.t 114), some (110, false)⟩,
  ⟨(some 116), .mv (.t 115), some (110, false)⟩,
  ⟨(some 117), .mv (.t 17), some (116, true)⟩,
  ⟨(some 118), .bin .neq (.t 117) (.k (.c (.int .i64 0))), some (116, true)⟩,
  ⟨(some 119), .mv (.t 118), some (116, true)⟩,
  ⟨(some 120), .mv (.t 16), some (119, false)⟩,
  ⟨(some 121), .b2s (.t 120), some (119, false)⟩,
  ⟨(some 122), .mv (.t 13), some (119, false)⟩,
  ⟨(some 123), .b2s (.t 122), some (119, false)⟩,
  ⟨(some 124), .bin .neq (.t 121) (.t 123), some (119, false)⟩,
  ⟨(some 125), .pick (.t 119) (.k (.c (.bool true))) (.t 124), some (116, true)⟩,
  ⟨(some 126), .pick (.t 116) (.t 125) (.k (.c (.bool false))), some (110, false)⟩,
  ⟨(some 127), .pick (.t 110) (.k (.c (.bool true))) (.t 126), none⟩]
abbrev o_rotalaw04_PortFresh_19 : List IOper := [⟨(some 6), .mv (.k (.c (.bool false))), none⟩]
abbrev o_rotalaw04_PortFresh_20 : List IOper := [⟨(some 83), .mv (.t 14), none⟩,
  ⟨(some 84), .bin .add (.t 83) (.k (.c (.int .i64 1))), none⟩,
  ⟨(some 14), .mv (.t 84), none⟩]
def b_rotalaw04_PortFresh_21 : IC := (.seq (.seq (.ops o_rotalaw04_PortFresh_15) (.cond (.t 82) .skip (.exit 2))) (.seq (.block 3 (.seq (.ops o_rotalaw04_PortFresh_16) (.seq (.ops o_rotalaw04_PortFresh_17) (.seq (.ops o_rotalaw04_PortFresh_18) (.cond (.t 127) (.seq (.ops o_rotalaw04_PortFresh_19) .ret) .skip))))) (.ops o_rotalaw04_PortFresh_20)))
abbrev o_rotalaw04_PortFresh_22 : List IOper := [⟨(some 129), .mv (.t 9), none⟩,
  ⟨(some 130), .mv (.t 12), none⟩,
  ⟨(some 131), .mv (.t 8), none⟩,
  ⟨(some 132), .bin .add (.t 130) (.t 131), none⟩,
  ⟨(some 133), .bin .sub (.t 132) (.k (.c (.int .i64 1))), none⟩,
  ⟨(some 134), .call (.k (.c (.fn fn_port_Box_Recv [] []))) [(.t 129), (.t 133)], none⟩,
  ⟨(some 128), .mv (.t 134), none⟩,
  ⟨(some 135), .ext (.t 128) 0, none⟩,
  ⟨(some 136), .ext (.t 128) 1, none⟩,
  ⟨(some 18), .mv (.t 135), none⟩,
  ⟨(some 19), .mv (.t 136), none⟩]
abbrev o_rotalaw04_PortFresh_23 : List IOper := [⟨(some 138), .mv (.t 9), none⟩,
  ⟨(some 139), .mv (.t 12), none⟩,
  ⟨(some 140), .mv (.t 8), none⟩,
  ⟨(some 141), .bin .add (.t 139) (.t 140), none⟩,
  ⟨(some 142), .call (.k (.c (.fn fn_port_Box_Recv [] []))) [(.t 138), (.t 141)], none⟩,
  ⟨(some 137), .mv (.t 142), none⟩,
  ⟨(some 143), .ext (.t 137) 0, none⟩,
  ⟨(some 144), .ext (.t 137) 1, none⟩,
  ⟨(some 20), .mv (.t 143), none⟩,
  ⟨(some 21), .mv (.t 144), none⟩]
abbrev o_rotalaw04_PortFresh_24 : List IOper := [⟨(some 145), .mv (.t 19), none⟩,
  ⟨(some 146), .bin .neq (.t 145) (.k (.c (.int .i64 0))), none⟩,
  ⟨(some 147), .mv (.t 146), none⟩,
  ⟨(some 148), .mv (.t 18), some (147, false)⟩,
  ⟨(some 149), .b2s (.t 148), some (147, false)⟩,
  ⟨(some 150), .mv (.t 13), some (147, false)⟩,
  ⟨(some 151), .b2s (.t 150), some (147, false)⟩,
  ⟨(some 152), .bin .neq (.t 149) (.t 151), some (147, false)⟩,
  ⟨(some 153), .pick (.t 147) (.k (.c (.bool true))) (.t 152), none⟩,
  ⟨(some 154), .mv (.t 153), none⟩,
  ⟨(some 155), .mv (.t 21), some (154, false)⟩,
  ⟨(some 156), .bin .neq (.t 155) (.k (.c (.int .i64 43))), some (154, false)⟩,
  ⟨(some 157), .pick (.t 154) (.k (.c (.bool true))) (.t 156), none⟩]
abbrev o_rotalaw04_PortFresh_25 : List IOper := [⟨(some 6), .mv (.k (.c (.bool false))), none⟩]
abbrev o_rotalaw04_PortFresh_26 : List IOper := [⟨(some 52), .mv (.t 11), none⟩,
  ⟨(some 53), .bin .add (.t 52) (.k (.c (.int .i64 1))), none⟩,
  ⟨(some 11), .mv (.t 53), none⟩]
def b_rotalaw04_PortFresh_27 : IC := (.seq (.seq (.ops o_rotalaw04_PortFresh_9) (.cond (.t 51) .skip (.exit 0))) (.seq (.block 1 (.seq (.ops o_rotalaw04_PortFresh_10) (.seq (.ops o_rotalaw04_PortFresh_11) (.seq (.seq (.ops o_rotalaw04_PortFresh_12) (.cond (.t 74) (.seq (.ops o_rotalaw04_PortFresh_13) .ret) .skip)) (.seq (.seq (.ops o_rotalaw04_PortFresh_14) (.block 2 (.loop b_rotalaw04_PortFresh_21))) (.seq (.ops o_rotalaw04_PortFresh_22) (.seq (.ops o_rotalaw04_PortFresh_23) (.seq (.ops o_rotalaw04_PortFresh_24) (.cond (.t 157) (.seq (.ops o_rotalaw04_PortFresh_25) .ret) .skip))))))))) (.ops o_rotalaw04_PortFresh_26)))
abbrev o_rotalaw04_PortFresh_28 : List IOper := [⟨(some 158), .mv (.t 7), none⟩,
  ⟨(some 159), .mv (.t 158), none⟩,
  ⟨(some 160), .mv (.t 9), some (159, true)⟩,
  ⟨(some 161), .call (.k (.c (.fn fn_port_Box_Len [] []))) [(.t 160)], some (159, true)⟩,
  ⟨(some 162), .mv (.t 1), some (159, true)⟩,
  ⟨(some 163), .len false (.t 162), some (159, true)⟩,
  ⟨(some 164), .mn (.k (.c (.int .i64 1))) [(.t 163)], some (159, true)⟩,
  ⟨(some 165), .bin .eql (.t 161) (.t 164), some (159, true)⟩,
  ⟨(some 166), .pick (.t 159) (.t 165) (.k (.c (.bool false))), none⟩,
  ⟨(some 6), .mv (.t 166), none⟩]
def c_rotalaw04_PortFresh : IC := (.seq (.ops o_rotalaw04_PortFresh_0) (.seq (.ops o_rotalaw04_PortFresh_1) (.seq (.seq (.ops o_rotalaw04_PortFresh_2) (.cond (.t 34) (.seq (.ops o_rotalaw04_PortFresh_3) .ret) .skip)) (.seq (.ops o_rotalaw04_PortFresh_4) (.seq (.ops o_rotalaw04_PortFresh_5) (.seq (.seq (.ops o_rotalaw04_PortFresh_6) (.cond (.t 47) (.seq (.ops o_rotalaw04_PortFresh_7) .ret) .skip)) (.seq (.seq (.ops o_rotalaw04_PortFresh_8) (.block 0 (.loop b_rotalaw04_PortFresh_27))) (.seq (.ops o_rotalaw04_PortFresh_28) .ret))))))))
def i_rotalaw04_PortFresh : IFn := ⟨167, c_rotalaw04_PortFresh, [(6, none)]⟩

-- F 6 rota/rotalaw04.PortPlays: bads 0, calls [12, 20, 21, 22, 14]
abbrev o_rotalaw04_PortPlays_0 : List IOper := [⟨(some 2), .box 30 (.t 0), none⟩,
  ⟨(some 4), .mv (.k (.c (.bool false))), none⟩]
abbrev o_rotalaw04_PortPlays_1 : List IOper := [⟨(some 13), .mv (.t 1), none⟩,
  ⟨(some 14), .len false (.t 13), none⟩,
  ⟨(some 15), .bin .gtr (.t 14) (.k (.c (.int .i64 1000))), none⟩]
abbrev o_rotalaw04_PortPlays_2 : List IOper := [⟨(some 4), .mv (.k (.c (.bool true))), none⟩]
abbrev o_rotalaw04_PortPlays_3 : List IOper := [⟨(some 17), .ld (some 6) (.t 2), none⟩,
  ⟨(some 18), .call (.k (.c (.fn fn_port_New [] []))) [(.t 17)], none⟩,
  ⟨(some 16), .mv (.t 18), none⟩,
  ⟨(some 19), .ext (.t 16) 0, none⟩,
  ⟨(some 20), .ext (.t 16) 1, none⟩,
  ⟨(some 5), .mv (.t 19), none⟩,
  ⟨(some 6), .mv (.t 20), none⟩]
abbrev o_rotalaw04_PortPlays_4 : List IOper := [⟨(some 22), .ld (some 6) (.t 2), none⟩,
  ⟨(some 23), .call (.k (.c (.fn fn_rotaref04_New [] []))) [(.t 22)], none⟩,
  ⟨(some 21), .mv (.t 23), none⟩,
  ⟨(some 24), .ext (.t 21) 0, none⟩,
  ⟨(some 25), .ext (.t 21) 1, none⟩,
  ⟨(some 7), .new 49 (.agg (List.replicate 6 (.int .i64 0) ++ [(.sl none 0 0 false)] ++ [(.int .i64 0)] ++ [(.bool false)])), none⟩,
  ⟨none, .st 9 (.t 7) (.t 24), none⟩,
  ⟨(some 8), .mv (.t 25), none⟩]
abbrev o_rotalaw04_PortPlays_5 : List IOper := [⟨(some 26), .mv (.t 8), none⟩,
  ⟨(some 27), .bin .neq (.t 26) (.k (.c (.int .i64 0))), none⟩,
  ⟨(some 28), .mv (.t 27), none⟩,
  ⟨(some 29), .mv (.t 6), some (28, false)⟩,
  ⟨(some 30), .bin .neq (.t 29) (.k (.c (.int .i64 0))), some (28, false)⟩,
  ⟨(some 31), .pick (.t 28) (.k (.c (.bool true))) (.t 30), none⟩]
abbrev o_rotalaw04_PortPlays_6 : List IOper := [⟨(some 32), .mv (.t 6), none⟩,
  ⟨(some 33), .mv (.t 8), none⟩,
  ⟨(some 34), .bin .eql (.t 32) (.t 33), none⟩,
  ⟨(some 35), .mv (.t 34), none⟩,
  ⟨(some 36), .mv (.t 5), some (35, true)⟩,
  ⟨(some 37), .eq .ptr false (.t 36) (.k (.c (.ptr none))), some (35, true)⟩,
  ⟨(some 38), .pick (.t 35) (.t 37) (.k (.c (.bool false))), none⟩,
  ⟨(some 4), .mv (.t 38), none⟩]
abbrev o_rotalaw04_PortPlays_7 : List IOper := [⟨(some 39), .build [(.sl none 0 0 false), (.sl none 0 0 false)] [], none⟩,
  ⟨(some 40), .box 54 (.t 39), none⟩,
  ⟨(some 9), .mv (.t 40), none⟩]
abbrev o_rotalaw04_PortPlays_8 : List IOper := [⟨(some 10), .mv (.k (.c (.int .i64 0))), none⟩]
abbrev o_rotalaw04_PortPlays_9 : List IOper := [⟨(some 41), .mv (.t 10), none⟩,
  ⟨(some 42), .mv (.t 1), none⟩,
  ⟨(some 43), .len false (.t 42), none⟩,
  ⟨(some 44), .bin .lss (.t 41) (.t 43), none⟩]
abbrev o_rotalaw04_PortPlays_10 : List IOper := [⟨(some 47), .mv (.t 1), none⟩,
  ⟨(some 48), .mv (.t 10), none⟩,
  ⟨(some 49), .iaS 3 (.t 47) (.t 48), none⟩,
  ⟨(some 50), .fa 1 (.t 49), none⟩,
  ⟨(some 51), .ld none (.t 50), none⟩,
  ⟨(some 52), .len false (.t 51), none⟩,
  ⟨(some 53), .bin .gtr (.t 52) (.k (.c (.int .i64 100))), none⟩]
abbrev o_rotalaw04_PortPlays_11 : List IOper := [⟨(some 4), .mv (.k (.c (.bool true))), none⟩]
abbrev o_rotalaw04_PortPlays_12 : List IOper := [⟨(some 55), .mv (.t 5), none⟩,
  ⟨(some 56), .mv (.t 1), none⟩,
  ⟨(some 57), .mv (.t 10), none⟩,
  ⟨(some 58), .iaS 3 (.t 56) (.t 57), none⟩,
  ⟨(some 59), .ld (some 3) (.t 58), none⟩,
  ⟨(some 60), .mv (.t 9), none⟩,
  ⟨(some 61), .call (.k (.c (.fn fn_rotalaw04_do [] []))) [(.t 55), (.t 7), (.t 59), (.t 60)], none⟩,
  ⟨(some 54), .mv (.t 61), none⟩,
  ⟨(some 62), .ext (.t 54) 0, none⟩,
  ⟨(some 63), .ext (.t 54) 1, none⟩,
  ⟨(some 11), .mv (.t 62), none⟩,
  ⟨(some 12), .mv (.t 63), none⟩]
abbrev o_rotalaw04_PortPlays_13 : List IOper := [⟨(some 64), .mv (.t 12), none⟩,
  ⟨(some 65), .un .not (.t 64), none⟩]
abbrev o_rotalaw04_PortPlays_14 : List IOper := [⟨(some 4), .mv (.k (.c (.bool false))), none⟩]
abbrev o_rotalaw04_PortPlays_15 : List IOper := [⟨(some 66), .mv (.t 11), none⟩,
  ⟨(some 5), .mv (.t 66), none⟩]
abbrev o_rotalaw04_PortPlays_16 : List IOper := [⟨(some 45), .mv (.t 10), none⟩,
  ⟨(some 46), .bin .add (.t 45) (.k (.c (.int .i64 1))), none⟩,
  ⟨(some 10), .mv (.t 46), none⟩]
def b_rotalaw04_PortPlays_17 : IC := (.seq (.seq (.ops o_rotalaw04_PortPlays_9) (.cond (.t 44) .skip (.exit 0))) (.seq (.block 1 (.seq (.seq (.ops o_rotalaw04_PortPlays_10) (.cond (.t 53) (.seq (.ops o_rotalaw04_PortPlays_11) .ret) .skip)) (.seq (.ops o_rotalaw04_PortPlays_12) (.seq (.seq (.ops o_rotalaw04_PortPlays_13) (.cond (.t 65) (.seq (.ops o_rotalaw04_PortPlays_14) .ret) .skip)) (.ops o_rotalaw04_PortPlays_15))))) (.ops o_rotalaw04_PortPlays_16)))
abbrev o_rotalaw04_PortPlays_18 : List IOper := [⟨(some 67), .mv (.t 9), none⟩,
  ⟨(some 68), .call (.k (.c (.fn fn_rotalaw04_kept_still [] []))) [(.t 67)], none⟩,
  ⟨(some 69), .mv (.t 68), none⟩,
  ⟨(some 72), .fa 6 (.t 7), some (69, true)⟩,
  ⟨(some 73), .ld none (.t 72), some (69, true)⟩,
  ⟨(some 74), .len false (.t 73), some (69, true)⟩,
  ⟨(some 70), .mv (.t 5), some (69, true)⟩,
  ⟨(some 71), .call (.k (.c (.fn fn_port_Box_Len [] []))) [(.t 70)], some (69, true)⟩,
  ⟨none, .same (some none) (.t 72) (.t 73), some (69, true)⟩,
  ⟨(some 75), .bin .eql (.t 71) (.t 74), some (69, true)⟩,
  ⟨(some 76), .pick (.t 69) (.t 75) (.k (.c (.bool false))), none⟩,
  ⟨(some 4), .mv (.t 76), none⟩]
def c_rotalaw04_PortPlays : IC := (.seq (.ops o_rotalaw04_PortPlays_0) (.seq (.seq (.ops o_rotalaw04_PortPlays_1) (.cond (.t 15) (.seq (.ops o_rotalaw04_PortPlays_2) .ret) .skip)) (.seq (.ops o_rotalaw04_PortPlays_3) (.seq (.ops o_rotalaw04_PortPlays_4) (.seq (.seq (.ops o_rotalaw04_PortPlays_5) (.cond (.t 31) (.seq (.ops o_rotalaw04_PortPlays_6) .ret) .skip)) (.seq (.ops o_rotalaw04_PortPlays_7) (.seq (.seq (.ops o_rotalaw04_PortPlays_8) (.block 0 (.loop b_rotalaw04_PortPlays_17))) (.seq (.ops o_rotalaw04_PortPlays_18) .ret))))))))
def i_rotalaw04_PortPlays : IFn := ⟨77, c_rotalaw04_PortPlays, [(4, none)]⟩

-- F 7 rota/rotalaw04.PortNames: bads 0, calls [16, 12, 18, 18, 17, 17, 17, 19, 12, 17, 18, 17, 17, 17, 13, 15, 18, 18, 12, 13, 17, 15, 18, 14, 14, 23, 23, 10]
abbrev o_rotalaw04_PortNames_0 : List IOper := [⟨(some 0), .mv (.k (.c (.bool false))), none⟩]
abbrev o_rotalaw04_PortNames_1 : List IOper := [⟨(some 32), .call (.k (.c (.fn fn_rotalaw04_queue [] []))) [(.k (.c (.int .i64 2))), (.k (.c (.int .i64 1))), (.k (.c (.int .i64 1)))], none⟩,
  ⟨(some 33), .call (.k (.c (.fn fn_port_New [] []))) [(.t 32)], none⟩,
  ⟨(some 31), .mv (.t 33), none⟩,
  ⟨(some 34), .ext (.t 31) 0, none⟩,
  ⟨(some 35), .ext (.t 31) 1, none⟩,
  ⟨(some 1), .mv (.t 34), none⟩,
  ⟨(some 2), .mv (.t 35), none⟩]
abbrev o_rotalaw04_PortNames_2 : List IOper := [⟨(some 36), .mv (.t 1), none⟩,
  ⟨(some 37), .bsl 5 1 [(.int .u8 0)] [(0, 1, (.k (.c (.int .u8 5))))], none⟩,
  ⟨(some 38), .call (.k (.c (.fn fn_port_Box_Arrive [] []))) [(.t 36), (.t 37), (.k (.c (.int .i64 0)))], none⟩,
  ⟨(some 39), .mv (.t 1), none⟩,
  ⟨(some 40), .bsl 5 1 [(.int .u8 0)] [(0, 1, (.k (.c (.int .u8 6))))], none⟩,
  ⟨(some 41), .call (.k (.c (.fn fn_port_Box_Arrive [] []))) [(.t 39), (.t 40), (.k (.c (.int .i64 0)))], none⟩,
  ⟨(some 3), .mv (.t 38), none⟩,
  ⟨(some 4), .mv (.t 41), none⟩]
abbrev o_rotalaw04_PortNames_3 : List IOper := [⟨(some 43), .mv (.t 1), none⟩,
  ⟨(some 44), .call (.k (.c (.fn fn_port_Box_Recv [] []))) [(.t 43), (.k (.c (.int .i64 0)))], none⟩,
  ⟨(some 42), .mv (.t 44), none⟩,
  ⟨(some 45), .ext (.t 42) 0, none⟩,
  ⟨(some 46), .ext (.t 42) 1, none⟩,
  ⟨(some 5), .mv (.t 45), none⟩,
  ⟨(some 6), .mv (.t 46), none⟩]
abbrev o_rotalaw04_PortNames_4 : List IOper := [⟨(some 48), .mv (.t 1), none⟩,
  ⟨(some 49), .call (.k (.c (.fn fn_port_Box_Recv [] []))) [(.t 48), (.k (.c (.int .i64 0)))], none⟩,
  ⟨(some 47), .mv (.t 49), none⟩,
  ⟨(some 50), .ext (.t 47) 0, none⟩,
  ⟨(some 51), .ext (.t 47) 1, none⟩,
  ⟨(some 7), .mv (.t 50), none⟩,
  ⟨(some 8), .mv (.t 51), none⟩]
abbrev o_rotalaw04_PortNames_5 : List IOper := [⟨(some 53), .mv (.t 1), none⟩,
  ⟨(some 54), .call (.k (.c (.fn fn_port_Box_Recv [] []))) [(.t 53), (.k (.c (.int .i64 0)))], none⟩,
  ⟨(some 52), .mv (.t 54), none⟩,
  ⟨(some 55), .ext (.t 52) 0, none⟩,
  ⟨(some 56), .ext (.t 52) 1, none⟩,
  ⟨(some 9), .mv (.t 55), none⟩,
  ⟨(some 10), .mv (.t 56), none⟩]
abbrev o_rotalaw04_PortNames_6 : List IOper := [⟨(some 57), .mv (.t 3), none⟩,
  ⟨(some 58), .bin .eql (.t 57) (.k (.c (.int .i64 0))), none⟩,
  ⟨(some 59), .mv (.t 58), none⟩,
  ⟨(some 60), .mv (.t 4), some (59, true)⟩,
  ⟨(some 61), .bin .eql (.t 60) (.k (.c (.int .i64 41))), some (59, true)⟩,
  ⟨(some 62), .pick (.t 59) (.t 61) (.k (.c (.bool false))), none⟩,
  ⟨(some 63), .mv (.t 62), none⟩,
  ⟨(some 64), .mv (.t 6), some (63, true)⟩,
  ⟨(some 65), .bin .eql (.t 64) (.k (.c (.int .i64 44))), some (63, true)⟩,
  ⟨(some 66), .pick (.t 63) (.t 65) (.k (.c (.bool false))), none⟩,
  ⟨(some 67), .mv (.t 66), none⟩,
  ⟨(some 68), .mv (.t 7), some (67, true)⟩,
  ⟨(some 69), .b2s (.t 68), some (67, true)⟩,
  ⟨(some 70), .bin .eql (.t 69) (.k (.c (.str ⟨#[5]⟩))), some (67, true)⟩,
  ⟨(some 71), .pick (.t 67) (.t 70) (.k (.c (.bool false))), none⟩,
  ⟨(some 72), .mv (.t 71), none⟩,
  ⟨(some 73), .mv (.t 8), some (72, true)⟩,
  ⟨(some 74), .bin .eql (.t 73) (.k (.c (.int .i64 0))), some (72, true)⟩,
  ⟨(some 75), .pick (.t 72) (.t 74) (.k (.c (.bool false))), none⟩,
  ⟨(some 76), .mv (.t 75), none⟩,
  ⟨(some 77), .mv (.t 10), some (76, true)⟩,
  ⟨(some 78), .bin .eql (.t 77) (.k (.c (.int .i64 42))), some (76, true)⟩,
  ⟨(some 79), .pick (.t 76) (.t 78) (.k (.c (.bool false))), none⟩,
  ⟨(some 11), .mv (.t 79), none⟩]
abbrev o_rotalaw04_PortNames_7 : List IOper := [⟨(some 81), .call (.k (.c (.fn fn_rotalaw04_sample [] []))) [(.k (.c (.int .i64 2))), (.k (.c (.int .i64 3)))], none⟩,
  ⟨(some 82), .call (.k (.c (.fn fn_port_New [] []))) [(.t 81)], none⟩,
  ⟨(some 80), .mv (.t 82), none⟩,
  ⟨(some 83), .ext (.t 80) 0, none⟩,
  ⟨(some 84), .ext (.t 80) 1, none⟩,
  ⟨(some 12), .mv (.t 83), none⟩,
  ⟨(some 13), .mv (.t 84), none⟩]
abbrev o_rotalaw04_PortNames_8 : List IOper := [⟨(some 86), .mv (.t 12), none⟩,
  ⟨(some 87), .call (.k (.c (.fn fn_port_Box_Recv [] []))) [(.t 86), (.k (.c (.int .i64 0)))], none⟩,
  ⟨(some 85), .mv (.t 87), none⟩,
  ⟨(some 88), .ext (.t 85) 0, none⟩,
  ⟨(some 89), .ext (.t 85) 1, none⟩,
  ⟨(some 3), .mv (.t 89), none⟩]
abbrev o_rotalaw04_PortNames_9 : List IOper := [⟨(some 90), .mv (.t 12), none⟩,
  ⟨(some 91), .bsl 5 2 [(.int .u8 0), (.int .u8 0)] [(0, 1, (.k (.c (.int .u8 1)))), (1, 1, (.k (.c (.int .u8 2))))], none⟩,
  ⟨(some 92), .call (.k (.c (.fn fn_port_Box_Arrive [] []))) [(.t 90), (.t 91), (.k (.c (.int .i64 4)))], none⟩,
  ⟨(some 4), .mv (.t 92), none⟩]
abbrev o_rotalaw04_PortNames_10 : List IOper := [⟨(some 94), .mv (.t 12), none⟩,
  ⟨(some 95), .call (.k (.c (.fn fn_port_Box_Recv [] []))) [(.t 94), (.k (.c (.int .i64 6)))], none⟩,
  ⟨(some 93), .mv (.t 95), none⟩,
  ⟨(some 96), .ext (.t 93) 0, none⟩,
  ⟨(some 97), .ext (.t 93) 1, none⟩,
  ⟨(some 7), .mv (.t 96), none⟩,
  ⟨(some 6), .mv (.t 97), none⟩]
abbrev o_rotalaw04_PortNames_11 : List IOper := [⟨(some 99), .mv (.t 12), none⟩,
  ⟨(some 100), .call (.k (.c (.fn fn_port_Box_Recv [] []))) [(.t 99), (.k (.c (.int .i64 7)))], none⟩,
  ⟨(some 98), .mv (.t 100), none⟩,
  ⟨(some 101), .ext (.t 98) 0, none⟩,
  ⟨(some 102), .ext (.t 98) 1, none⟩,
  ⟨(some 14), .mv (.t 101), none⟩,
  ⟨(some 8), .mv (.t 102), none⟩]
abbrev o_rotalaw04_PortNames_12 : List IOper := [⟨(some 104), .mv (.t 12), none⟩,
  ⟨(some 105), .call (.k (.c (.fn fn_port_Box_Recv [] []))) [(.t 104), (.k (.c (.int .i64 3)))], none⟩,
  ⟨(some 103), .mv (.t 105), none⟩,
  ⟨(some 106), .ext (.t 103) 0, none⟩,
  ⟨(some 107), .ext (.t 103) 1, none⟩,
  ⟨(some 15), .mv (.t 106), none⟩,
  ⟨(some 10), .mv (.t 107), none⟩]
abbrev o_rotalaw04_PortNames_13 : List IOper := [⟨(some 108), .mv (.t 3), none⟩,
  ⟨(some 109), .bin .eql (.t 108) (.k (.c (.int .i64 42))), none⟩,
  ⟨(some 110), .mv (.t 109), none⟩,
  ⟨(some 111), .mv (.t 4), some (110, true)⟩,
  ⟨(some 112), .bin .eql (.t 111) (.k (.c (.int .i64 0))), some (110, true)⟩,
  ⟨(some 113), .pick (.t 110) (.t 112) (.k (.c (.bool false))), none⟩,
  ⟨(some 114), .mv (.t 113), none⟩,
  ⟨(some 115), .mv (.t 7), some (114, true)⟩,
  ⟨(some 116), .b2s (.t 115), some (114, true)⟩,
  ⟨(some 117), .bin .eql (.t 116) (.k (.c (.str ⟨#[1, 2]⟩))), some (114, true)⟩,
  ⟨(some 118), .pick (.t 114) (.t 117) (.k (.c (.bool false))), none⟩,
  ⟨(some 119), .mv (.t 118), none⟩,
  ⟨(some 120), .mv (.t 6), some (119, true)⟩,
  ⟨(some 121), .bin .eql (.t 120) (.k (.c (.int .i64 0))), some (119, true)⟩,
  ⟨(some 122), .pick (.t 119) (.t 121) (.k (.c (.bool false))), none⟩,
  ⟨(some 123), .mv (.t 122), none⟩,
  ⟨(some 124), .mv (.t 14), some (123, true)⟩,
  ⟨(some 125), .len false (.t 124), some (123, true)⟩,
  ⟨(some 126), .bin .eql (.t 125) (.k (.c (.int .i64 0))), some (123, true)⟩,
  ⟨(some 127), .pick (.t 123) (.t 126) (.k (.c (.bool false))), none⟩,
  ⟨(some 128), .mv (.t 127), none⟩,
  ⟨(some 129), .mv (.t 8), some (128, true)⟩,
  ⟨(some 130), .bin .eql (.t 129) (.k (.c (.int .i64 43))), some (128, true)⟩,
  ⟨(some 131), .pick (.t 128) (.t 130) (.k (.c (.bool false))), none⟩,
  ⟨(some 132), .mv (.t 131), none⟩,
  ⟨(some 133), .mv (.t 15), some (132, true)⟩,
  ⟨(some 134), .b2s (.t 133), some (132, true)⟩,
  ⟨(some 135), .bin .eql (.t 134) (.k (.c (.str ⟨#[1, 2]⟩))), some (132, true)⟩,
  ⟨(some 136), .pick (.t 132) (.t 135) (.k (.c (.bool false))), none⟩,
  ⟨(some 137), .mv (.t 136), none⟩,
  ⟨(some 138), .mv (.t 10), some (137, true)⟩,
  ⟨(some 139), .bin .eql (.t 138) (.k (.c (.int .i64 0))), some (137, true)⟩,
  ⟨(some 140), .pick (.t 137) (.t 139) (.k (.c (.bool false))), none⟩,
  ⟨(some 16), .mv (.t 140), none⟩]
abbrev o_rotalaw04_PortNames_14 : List IOper := [⟨(some 142), .mv (.t 12), none⟩,
  ⟨(some 143), .call (.k (.c (.fn fn_port_Box_Take [] []))) [(.t 142)], none⟩,
  ⟨(some 141), .mv (.t 143), none⟩,
  ⟨(some 144), .ext (.t 141) 0, none⟩,
  ⟨(some 145), .ext (.t 141) 1, none⟩,
  ⟨(some 17), .mv (.t 144), none⟩,
  ⟨(some 18), .mv (.t 145), none⟩]
abbrev o_rotalaw04_PortNames_15 : List IOper := [⟨(some 146), .mv (.t 12), none⟩,
  ⟨(some 147), .call (.k (.c (.fn fn_port_Box_Send [] []))) [(.t 146), (.k (.c (.sl none 0 0 false)))], none⟩,
  ⟨(some 148), .bin .eql (.t 147) (.k (.c (.int .i64 40))), none⟩,
  ⟨(some 149), .mv (.t 148), none⟩,
  ⟨(some 150), .mv (.t 12), some (149, true)⟩,
  ⟨(some 151), .bsl 5 1 [(.int .u8 0)] [(0, 1, (.k (.c (.int .u8 1))))], some (149, true)⟩,
  ⟨(some 152), .call (.k (.c (.fn fn_port_Box_Arrive [] []))) [(.t 150), (.t 151), (.k (.c (.int .i64 0)))], some (149, true)⟩,
  ⟨(some 153), .bin .eql (.t 152) (.k (.c (.int .i64 45))), some (149, true)⟩,
  ⟨(some 154), .pick (.t 149) (.t 153) (.k (.c (.bool false))), none⟩,
  ⟨(some 155), .mv (.t 154), none⟩,
  ⟨(some 156), .mv (.t 12), some (155, true)⟩,
  ⟨(some 157), .bsl 5 2 [(.int .u8 0), (.int .u8 0)] [(0, 1, (.k (.c (.int .u8 1)))), (1, 1, (.k (.c (.int .u8 2))))], some (155, true)⟩,
  ⟨(some 158), .call (.k (.c (.fn fn_port_Box_Arrive [] []))) [(.t 156), (.t 157), (.k (.c (.int .i64 (-1))))], some (155, true)⟩,
  ⟨(some 159), .bin .eql (.t 158) (.k (.c (.int .i64 2))), some (155, true)⟩,
  ⟨(some 160), .pick (.t 155) (.t 159) (.k (.c (.bool false))), none⟩,
  ⟨(some 161), .mv (.t 160), none⟩,
  ⟨(some 162), .mv (.t 18), some (161, true)⟩,
  ⟨(some 163), .un .not (.t 162), some (161, true)⟩,
  ⟨(some 164), .pick (.t 161) (.t 163) (.k (.c (.bool false))), none⟩,
  ⟨(some 19), .mv (.t 164), none⟩]
abbrev o_rotalaw04_PortNames_16 : List IOper := [⟨(some 165), .build (List.replicate 6 (.int .i64 0)) [], none⟩,
  ⟨(some 166), .build (List.replicate 6 (.int .i64 0)) [(1, 1, (.k (.c (.int .i64 3)))), (2, 1, (.k (.c (.int .i64 1)))), (3, 1, (.k (.c (.int .i64 1))))], none⟩,
  ⟨(some 167), .build (List.replicate 6 (.int .i64 0)) [(1, 1, (.k (.c (.int .i64 1)))), (2, 1, (.k (.c (.int .i64 3)))), (3, 1, (.k (.c (.int .i64 1))))], none⟩,
  ⟨(some 168), .build (List.replicate 6 (.int .i64 0)) [(1, 1, (.k (.c (.int .i64 1)))), (2, 1, (.k (.c (.int .i64 1)))), (3, 1, (.k (.c (.int .i64 33))))], none⟩,
  ⟨(some 169), .build (List.replicate 6 (.int .i64 0)) [(1, 1, (.k (.c (.int .i64 1)))), (2, 1, (.k (.c (.int .i64 1))))], none⟩,
  ⟨(some 170), .build (List.replicate 6 (.int .i64 0)) [(1, 1, (.k (.c (.int .i64 1)))), (2, 1, (.k (.c (.int .i64 1)))), (3, 1, (.k (.c (.int .i64 1)))), (4, 1, (.k (.c (.int .i64 1))))], none⟩,
  ⟨(some 171), .build (List.replicate 6 (.int .i64 0)) [(1, 1, (.k (.c (.int .i64 1)))), (2, 1, (.k (.c (.int .i64 1)))), (3, 1, (.k (.c (.int .i64 1)))), (5, 1, (.k (.c (.int .i64 1))))], none⟩,
  ⟨(some 172), .build (List.replicate 6 (.int .i64 0)) [(1, 1, (.k (.c (.int .i64 1)))), (2, 1, (.k (.c (.int .i64 2)))), (3, 1, (.k (.c (.int .i64 1))))], none⟩,
  ⟨(some 173), .build (List.replicate 6 (.int .i64 0)) [(1, 1, (.k (.c (.int .i64 1)))), (2, 1, (.k (.c (.int .i64 2)))), (3, 1, (.k (.c (.int .i64 1)))), (5, 1, (.k (.c (.int .i64 65536))))], none⟩,
  ⟨(some 174), .build (List.replicate 6 (.int .i64 0)) [(1, 1, (.k (.c (.int .i64 2)))), (2, 1, (.k (.c (.int .i64 2)))), (3, 1, (.k (.c (.int .i64 1))))], none⟩,
  ⟨(some 175), .build (List.replicate 6 (.int .i64 0)) [(1, 1, (.k (.c (.int .i64 2)))), (2, 1, (.k (.c (.int .i64 2)))), (3, 1, (.k (.c (.int .i64 1)))), (4, 1, (.k (.c (.int .i64 9))))], none⟩,
  ⟨(some 176), .build (List.replicate 6 (.int .i64 0)) [(1, 1, (.k (.c (.int .i64 2)))), (2, 1, (.k (.c (.int .i64 2)))), (3, 1, (.k (.c (.int .i64 1)))), (4, 1, (.k (.c (.int .i64 1)))), (5, 1, (.k (.c (.int .i64 1))))], none⟩,
  ⟨(some 177), .bsl 30 12 (List.replicate 72 (.int .i64 0)) [(0, 6, (.t 165)), (6, 6, (.t 166)), (12, 6, (.t 167)), (18, 6, (.t 168)), (24, 6, (.t 169)), (30, 6, (.t 170)), (36, 6, (.t 171)), (42, 6, (.t 172)), (48, 6, (.t 173)), (54, 6, (.t 174)), (60, 6, (.t 175)), (66, 6, (.t 176))], none⟩,
  ⟨(some 178), .len false (.t 177), none⟩,
  ⟨(some 179), .mv (.k (.c (.int .i64 0))), none⟩]
abbrev o_rotalaw04_PortNames_17 : List IOper := [⟨(some 180), .bin .lss (.t 179) (.t 178), none⟩]
abbrev o_rotalaw04_PortNames_18 : List IOper := [⟨(some 181), .iaS 6 (.t 177) (.t 179), none⟩,
  ⟨(some 182), .ld (some 6) (.t 181), none⟩,
  ⟨(some 21), .new 30 (.agg (List.replicate 6 (.int .i64 0))), none⟩,
  ⟨none, .st 6 (.t 21) (.t 182), none⟩]
abbrev o_rotalaw04_PortNames_19 : List IOper := [⟨(some 184), .ld (some 6) (.t 21), none⟩,
  ⟨(some 185), .call (.k (.c (.fn fn_port_New [] []))) [(.t 184)], none⟩,
  ⟨(some 183), .mv (.t 185), none⟩,
  ⟨(some 186), .ext (.t 183) 0, none⟩,
  ⟨(some 187), .ext (.t 183) 1, none⟩,
  ⟨(some 22), .mv (.t 186), none⟩,
  ⟨(some 23), .mv (.t 187), none⟩]
abbrev o_rotalaw04_PortNames_20 : List IOper := [⟨(some 188), .mv (.t 19), none⟩,
  ⟨(some 189), .mv (.t 188), none⟩,
  ⟨(some 190), .mv (.t 22), some (189, true)⟩,
  ⟨(some 191), .eq .ptr false (.t 190) (.k (.c (.ptr none))), some (189, true)⟩,
  ⟨(some 192), .pick (.t 189) (.t 191) (.k (.c (.bool false))), none⟩,
  ⟨(some 193), .mv (.t 192), none⟩,
  ⟨(some 194), .mv (.t 23), some (193, true)⟩,
  ⟨(some 195), .bin .eql (.t 194) (.k (.c (.int .i64 40))), some (193, true)⟩,
  ⟨(some 196), .pick (.t 193) (.t 195) (.k (.c (.bool false))), none⟩,
  ⟨(some 19), .mv (.t 196), none⟩]
abbrev o_rotalaw04_PortNames_21 : List IOper := [⟨(some 197), .bin .add (.t 179) (.k (.c (.int .i64 1))), none⟩,
  ⟨(some 179), .mv (.t 197), none⟩]
def b_rotalaw04_PortNames_22 : IC := (.seq (.ops o_rotalaw04_PortNames_17) (.seq (.cond (.t 180) .skip (.exit 0)) (.seq (.block 1 (.seq (.ops o_rotalaw04_PortNames_18) (.seq (.ops o_rotalaw04_PortNames_19) (.ops o_rotalaw04_PortNames_20)))) (.ops o_rotalaw04_PortNames_21))))
abbrev o_rotalaw04_PortNames_23 : List IOper := [⟨(some 24), .mv (.k (.c (.ptr none))), none⟩]
abbrev o_rotalaw04_PortNames_24 : List IOper := [⟨(some 25), .new 64 (.agg (List.replicate 6 (.int .i64 0) ++ [(.ptr none)] ++ [(.sl none 0 0 false)] ++ [(.int .i64 0)] ++ [(.bool false)])), none⟩]
abbrev o_rotalaw04_PortNames_25 : List IOper := [⟨(some 199), .mv (.t 24), none⟩,
  ⟨(some 200), .call (.k (.c (.fn fn_port_Box_Take [] []))) [(.t 199)], none⟩,
  ⟨(some 198), .mv (.t 200), none⟩,
  ⟨(some 201), .ext (.t 198) 0, none⟩,
  ⟨(some 202), .ext (.t 198) 1, none⟩,
  ⟨(some 26), .mv (.t 201), none⟩,
  ⟨(some 27), .mv (.t 202), none⟩]
abbrev o_rotalaw04_PortNames_26 : List IOper := [⟨(some 204), .call (.k (.c (.fn fn_port_Box_Recv [] []))) [(.t 25), (.k (.c (.int .i64 (-1))))], none⟩,
  ⟨(some 203), .mv (.t 204), none⟩,
  ⟨(some 205), .ext (.t 203) 0, none⟩,
  ⟨(some 206), .ext (.t 203) 1, none⟩,
  ⟨(some 28), .mv (.t 205), none⟩,
  ⟨(some 29), .mv (.t 206), none⟩]
abbrev o_rotalaw04_PortNames_27 : List IOper := [⟨(some 207), .mv (.t 24), none⟩,
  ⟨(some 208), .call (.k (.c (.fn fn_port_Box_Send [] []))) [(.t 207), (.k (.c (.sl none 0 0 false)))], none⟩,
  ⟨(some 209), .bin .eql (.t 208) (.k (.c (.int .i64 1))), none⟩,
  ⟨(some 210), .mv (.t 209), none⟩,
  ⟨(some 211), .call (.k (.c (.fn fn_port_Box_Arrive [] []))) [(.t 25), (.k (.c (.sl none 0 0 false))), (.k (.c (.int .i64 (-1))))], some (210, true)⟩,
  ⟨(some 212), .bin .eql (.t 211) (.k (.c (.int .i64 1))), some (210, true)⟩,
  ⟨(some 213), .pick (.t 210) (.t 212) (.k (.c (.bool false))), none⟩,
  ⟨(some 214), .mv (.t 213), none⟩,
  ⟨(some 215), .mv (.t 27), some (214, true)⟩,
  ⟨(some 216), .un .not (.t 215), some (214, true)⟩,
  ⟨(some 217), .pick (.t 214) (.t 216) (.k (.c (.bool false))), none⟩,
  ⟨(some 218), .mv (.t 217), none⟩,
  ⟨(some 219), .mv (.t 29), some (218, true)⟩,
  ⟨(some 220), .bin .eql (.t 219) (.k (.c (.int .i64 1))), some (218, true)⟩,
  ⟨(some 221), .pick (.t 218) (.t 220) (.k (.c (.bool false))), none⟩,
  ⟨(some 222), .mv (.t 221), none⟩,
  ⟨(some 223), .mv (.t 24), some (222, true)⟩,
  ⟨(some 224), .call (.k (.c (.fn fn_port_Box_Len [] []))) [(.t 223)], some (222, true)⟩,
  ⟨(some 225), .bin .eql (.t 224) (.k (.c (.int .i64 0))), some (222, true)⟩,
  ⟨(some 226), .pick (.t 222) (.t 225) (.k (.c (.bool false))), none⟩,
  ⟨(some 227), .mv (.t 226), none⟩,
  ⟨(some 228), .call (.k (.c (.fn fn_port_Box_Len [] []))) [(.t 25)], some (227, true)⟩,
  ⟨(some 229), .bin .eql (.t 228) (.k (.c (.int .i64 0))), some (227, true)⟩,
  ⟨(some 230), .pick (.t 227) (.t 229) (.k (.c (.bool false))), none⟩,
  ⟨(some 231), .mv (.t 230), none⟩,
  ⟨(some 232), .mv (.t 24), some (231, true)⟩,
  ⟨(some 233), .call (.k (.c (.fn fn_port_Box_Copy [] []))) [(.t 232)], some (231, true)⟩,
  ⟨(some 234), .eq .ptr false (.t 233) (.k (.c (.ptr none))), some (231, true)⟩,
  ⟨(some 235), .pick (.t 231) (.t 234) (.k (.c (.bool false))), none⟩,
  ⟨(some 236), .mv (.t 235), none⟩,
  ⟨(some 237), .call (.k (.c (.fn fn_port_Box_Copy [] []))) [(.t 25)], some (236, true)⟩,
  ⟨(some 238), .eq .ptr false (.t 237) (.k (.c (.ptr none))), some (236, true)⟩,
  ⟨(some 239), .pick (.t 236) (.t 238) (.k (.c (.bool false))), none⟩,
  ⟨(some 30), .mv (.t 239), none⟩]
abbrev o_rotalaw04_PortNames_28 : List IOper := [⟨(some 240), .mv (.k (.c (.bool true))), none⟩,
  ⟨(some 241), .call (.k (.c (.fn fn_rotalaw04_alive [] []))) [], some (240, true)⟩,
  ⟨(some 242), .pick (.t 240) (.t 241) (.k (.c (.bool false))), none⟩,
  ⟨(some 243), .mv (.t 242), none⟩,
  ⟨(some 244), .mv (.t 11), some (243, true)⟩,
  ⟨(some 245), .pick (.t 243) (.t 244) (.k (.c (.bool false))), none⟩,
  ⟨(some 246), .mv (.t 245), none⟩,
  ⟨(some 247), .mv (.t 16), some (246, true)⟩,
  ⟨(some 248), .pick (.t 246) (.t 247) (.k (.c (.bool false))), none⟩,
  ⟨(some 249), .mv (.t 248), none⟩,
  ⟨(some 250), .mv (.t 19), some (249, true)⟩,
  ⟨(some 251), .pick (.t 249) (.t 250) (.k (.c (.bool false))), none⟩,
  ⟨(some 252), .mv (.t 251), none⟩,
  ⟨(some 253), .mv (.t 30), some (252, true)⟩,
  ⟨(some 254), .pick (.t 252) (.t 253) (.k (.c (.bool false))), none⟩,
  ⟨(some 0), .mv (.t 254), none⟩]
def c_rotalaw04_PortNames : IC := (.seq (.ops o_rotalaw04_PortNames_0) (.seq (.ops o_rotalaw04_PortNames_1) (.seq (.ops o_rotalaw04_PortNames_2) (.seq (.ops o_rotalaw04_PortNames_3) (.seq (.ops o_rotalaw04_PortNames_4) (.seq (.ops o_rotalaw04_PortNames_5) (.seq (.ops o_rotalaw04_PortNames_6) (.seq (.ops o_rotalaw04_PortNames_7) (.seq (.ops o_rotalaw04_PortNames_8) (.seq (.ops o_rotalaw04_PortNames_9) (.seq (.ops o_rotalaw04_PortNames_10) (.seq (.ops o_rotalaw04_PortNames_11) (.seq (.ops o_rotalaw04_PortNames_12) (.seq (.ops o_rotalaw04_PortNames_13) (.seq (.ops o_rotalaw04_PortNames_14) (.seq (.ops o_rotalaw04_PortNames_15) (.seq (.seq (.ops o_rotalaw04_PortNames_16) (.block 0 (.loop b_rotalaw04_PortNames_22))) (.seq (.ops o_rotalaw04_PortNames_23) (.seq (.ops o_rotalaw04_PortNames_24) (.seq (.ops o_rotalaw04_PortNames_25) (.seq (.ops o_rotalaw04_PortNames_26) (.seq (.ops o_rotalaw04_PortNames_27) (.seq (.ops o_rotalaw04_PortNames_28) .ret)))))))))))))))))))))))
def i_rotalaw04_PortNames : IFn := ⟨255, c_rotalaw04_PortNames, [(0, none)]⟩

-- F 8 rota/rotalaw04.PortCopies: bads 0, calls [10, 12, 24, 23, 23, 24, 24, 24, 23, 24, 14, 14, 25]
abbrev o_rotalaw04_PortCopies_0 : List IOper := [⟨(some 3), .box 30 (.t 0), none⟩,
  ⟨(some 6), .mv (.k (.c (.bool false))), none⟩]
abbrev o_rotalaw04_PortCopies_1 : List IOper := [⟨(some 21), .call (.k (.c (.fn fn_rotalaw04_alive [] []))) [], none⟩,
  ⟨(some 7), .mv (.t 21), none⟩]
abbrev o_rotalaw04_PortCopies_2 : List IOper := [⟨(some 22), .mv (.t 1), none⟩,
  ⟨(some 23), .len false (.t 22), none⟩,
  ⟨(some 24), .bin .gtr (.t 23) (.k (.c (.int .i64 500))), none⟩,
  ⟨(some 25), .mv (.t 24), none⟩,
  ⟨(some 26), .mv (.t 2), some (25, false)⟩,
  ⟨(some 27), .len false (.t 26), some (25, false)⟩,
  ⟨(some 28), .bin .gtr (.t 27) (.k (.c (.int .i64 500))), some (25, false)⟩,
  ⟨(some 29), .pick (.t 25) (.k (.c (.bool true))) (.t 28), none⟩,
  ⟨(some 30), .mv (.t 29), none⟩,
  ⟨(some 31), .mv (.t 7), some (30, false)⟩,
  ⟨(some 32), .un .not (.t 31), some (30, false)⟩,
  ⟨(some 33), .pick (.t 30) (.k (.c (.bool true))) (.t 32), none⟩]
abbrev o_rotalaw04_PortCopies_3 : List IOper := [⟨(some 34), .mv (.t 7), none⟩,
  ⟨(some 6), .mv (.t 34), none⟩]
abbrev o_rotalaw04_PortCopies_4 : List IOper := [⟨(some 36), .ld (some 6) (.t 3), none⟩,
  ⟨(some 37), .call (.k (.c (.fn fn_port_New [] []))) [(.t 36)], none⟩,
  ⟨(some 35), .mv (.t 37), none⟩,
  ⟨(some 38), .ext (.t 35) 0, none⟩,
  ⟨(some 39), .ext (.t 35) 1, none⟩,
  ⟨(some 8), .mv (.t 38), none⟩,
  ⟨(some 9), .mv (.t 39), none⟩]
abbrev o_rotalaw04_PortCopies_5 : List IOper := [⟨(some 40), .mv (.t 9), none⟩,
  ⟨(some 41), .bin .neq (.t 40) (.k (.c (.int .i64 0))), none⟩]
abbrev o_rotalaw04_PortCopies_6 : List IOper := [⟨(some 42), .mv (.t 8), none⟩,
  ⟨(some 43), .eq .ptr false (.t 42) (.k (.c (.ptr none))), none⟩,
  ⟨(some 44), .mv (.t 43), none⟩,
  ⟨(some 45), .mv (.t 9), some (44, true)⟩,
  ⟨(some 46), .bin .eql (.t 45) (.k (.c (.int .i64 40))), some (44, true)⟩,
  ⟨(some 47), .pick (.t 44) (.t 46) (.k (.c (.bool false))), none⟩,
  ⟨(some 6), .mv (.t 47), none⟩]
abbrev o_rotalaw04_PortCopies_7 : List IOper := [⟨(some 10), .mv (.k (.c (.int .i64 0))), none⟩]
abbrev o_rotalaw04_PortCopies_8 : List IOper := [⟨(some 48), .mv (.t 10), none⟩,
  ⟨(some 49), .mv (.t 1), none⟩,
  ⟨(some 50), .len false (.t 49), none⟩,
  ⟨(some 51), .bin .lss (.t 48) (.t 50), none⟩]
abbrev o_rotalaw04_PortCopies_9 : List IOper := [⟨(some 54), .mv (.t 8), none⟩,
  ⟨(some 55), .mv (.t 1), none⟩,
  ⟨(some 56), .mv (.t 10), none⟩,
  ⟨(some 57), .iaS 3 (.t 55) (.t 56), none⟩,
  ⟨(some 58), .ld (some 3) (.t 57), none⟩,
  ⟨(some 59), .call (.k (.c (.fn fn_rotalaw04_ask [] []))) [(.t 54), (.t 58)], none⟩]
abbrev o_rotalaw04_PortCopies_10 : List IOper := [⟨(some 52), .mv (.t 10), none⟩,
  ⟨(some 53), .bin .add (.t 52) (.k (.c (.int .i64 1))), none⟩,
  ⟨(some 10), .mv (.t 53), none⟩]
def b_rotalaw04_PortCopies_11 : IC := (.seq (.seq (.ops o_rotalaw04_PortCopies_8) (.cond (.t 51) .skip (.exit 0))) (.seq (.block 1 (.ops o_rotalaw04_PortCopies_9)) (.ops o_rotalaw04_PortCopies_10)))
abbrev o_rotalaw04_PortCopies_12 : List IOper := [⟨(some 60), .mv (.t 8), none⟩,
  ⟨(some 61), .call (.k (.c (.fn fn_port_Box_Copy [] []))) [(.t 60)], none⟩,
  ⟨(some 62), .mv (.t 8), none⟩,
  ⟨(some 63), .call (.k (.c (.fn fn_port_Box_Copy [] []))) [(.t 62)], none⟩,
  ⟨(some 11), .mv (.t 61), none⟩,
  ⟨(some 12), .mv (.t 63), none⟩]
abbrev o_rotalaw04_PortCopies_13 : List IOper := [⟨(some 13), .mv (.k (.c (.int .i64 0))), none⟩]
abbrev o_rotalaw04_PortCopies_14 : List IOper := [⟨(some 64), .mv (.t 13), none⟩,
  ⟨(some 65), .mv (.t 2), none⟩,
  ⟨(some 66), .len false (.t 65), none⟩,
  ⟨(some 67), .bin .lss (.t 64) (.t 66), none⟩]
abbrev o_rotalaw04_PortCopies_15 : List IOper := [⟨(some 71), .mv (.t 8), none⟩,
  ⟨(some 72), .mv (.t 2), none⟩,
  ⟨(some 73), .mv (.t 13), none⟩,
  ⟨(some 74), .iaS 3 (.t 72) (.t 73), none⟩,
  ⟨(some 75), .ld (some 3) (.t 74), none⟩,
  ⟨(some 76), .call (.k (.c (.fn fn_rotalaw04_ask [] []))) [(.t 71), (.t 75)], none⟩,
  ⟨(some 70), .mv (.t 76), none⟩,
  ⟨(some 77), .ext (.t 70) 0, none⟩,
  ⟨(some 78), .ext (.t 70) 1, none⟩,
  ⟨(some 14), .mv (.t 77), none⟩,
  ⟨(some 15), .mv (.t 78), none⟩]
abbrev o_rotalaw04_PortCopies_16 : List IOper := [⟨(some 80), .mv (.t 11), none⟩,
  ⟨(some 81), .mv (.t 2), none⟩,
  ⟨(some 82), .mv (.t 13), none⟩,
  ⟨(some 83), .iaS 3 (.t 81) (.t 82), none⟩,
  ⟨(some 84), .ld (some 3) (.t 83), none⟩,
  ⟨(some 85), .call (.k (.c (.fn fn_rotalaw04_ask [] []))) [(.t 80), (.t 84)], none⟩,
  ⟨(some 79), .mv (.t 85), none⟩,
  ⟨(some 86), .ext (.t 79) 0, none⟩,
  ⟨(some 87), .ext (.t 79) 1, none⟩,
  ⟨(some 16), .mv (.t 86), none⟩,
  ⟨(some 17), .mv (.t 87), none⟩]
abbrev o_rotalaw04_PortCopies_17 : List IOper := [⟨(some 88), .mv (.t 14), none⟩,
  ⟨(some 89), .mv (.t 16), none⟩,
  ⟨(some 90), .bin .neq (.t 88) (.t 89), none⟩,
  ⟨(some 91), .mv (.t 90), none⟩,
  ⟨(some 92), .mv (.t 15), some (91, false)⟩,
  ⟨(some 93), .mv (.t 17), some (91, false)⟩,
  ⟨(some 94), .bin .neq (.t 92) (.t 93), some (91, false)⟩,
  ⟨(some 95), .pick (.t 91) (.k (.c (.bool true))) (.t 94), none⟩]
abbrev o_rotalaw04_PortCopies_18 : List IOper := [⟨(some 6), .mv (.k (.c (.bool false))), none⟩]
abbrev o_rotalaw04_PortCopies_19 : List IOper := [⟨(some 68), .mv (.t 13), none⟩,
  ⟨(some 69), .bin .add (.t 68) (.k (.c (.int .i64 1))), none⟩,
  ⟨(some 13), .mv (.t 69), none⟩]
def b_rotalaw04_PortCopies_20 : IC := (.seq (.seq (.ops o_rotalaw04_PortCopies_14) (.cond (.t 67) .skip (.exit 2))) (.seq (.block 3 (.seq (.ops o_rotalaw04_PortCopies_15) (.seq (.ops o_rotalaw04_PortCopies_16) (.seq (.ops o_rotalaw04_PortCopies_17) (.cond (.t 95) (.seq (.ops o_rotalaw04_PortCopies_18) .ret) .skip))))) (.ops o_rotalaw04_PortCopies_19)))
abbrev o_rotalaw04_PortCopies_21 : List IOper := [⟨(some 18), .mv (.k (.c (.int .i64 0))), none⟩]
abbrev o_rotalaw04_PortCopies_22 : List IOper := [⟨(some 96), .mv (.t 18), none⟩,
  ⟨(some 97), .mv (.t 2), none⟩,
  ⟨(some 98), .len false (.t 97), none⟩,
  ⟨(some 99), .bin .lss (.t 96) (.t 98), none⟩]
abbrev o_rotalaw04_PortCopies_23 : List IOper := [⟨(some 102), .mv (.t 8), none⟩,
  ⟨(some 103), .mv (.t 2), none⟩,
  ⟨(some 104), .mv (.t 2), none⟩,
  ⟨(some 105), .len false (.t 104), none⟩,
  ⟨(some 106), .bin .sub (.t 105) (.k (.c (.int .i64 1))), none⟩,
  ⟨(some 107), .mv (.t 18), none⟩,
  ⟨(some 108), .bin .sub (.t 106) (.t 107), none⟩,
  ⟨(some 109), .iaS 3 (.t 103) (.t 108), none⟩,
  ⟨(some 110), .ld (some 3) (.t 109), none⟩,
  ⟨(some 111), .call (.k (.c (.fn fn_rotalaw04_ask [] []))) [(.t 102), (.t 110)], none⟩]
abbrev o_rotalaw04_PortCopies_24 : List IOper := [⟨(some 100), .mv (.t 18), none⟩,
  ⟨(some 101), .bin .add (.t 100) (.k (.c (.int .i64 1))), none⟩,
  ⟨(some 18), .mv (.t 101), none⟩]
def b_rotalaw04_PortCopies_25 : IC := (.seq (.seq (.ops o_rotalaw04_PortCopies_22) (.cond (.t 99) .skip (.exit 4))) (.seq (.block 5 (.ops o_rotalaw04_PortCopies_23)) (.ops o_rotalaw04_PortCopies_24)))
abbrev o_rotalaw04_PortCopies_26 : List IOper := [⟨(some 112), .mv (.t 12), none⟩,
  ⟨(some 113), .call (.k (.c (.fn fn_port_Box_Copy [] []))) [(.t 112)], none⟩,
  ⟨(some 19), .mv (.t 113), none⟩]
abbrev o_rotalaw04_PortCopies_27 : List IOper := [⟨(some 20), .mv (.k (.c (.int .i64 0))), none⟩]
abbrev o_rotalaw04_PortCopies_28 : List IOper := [⟨(some 114), .mv (.t 20), none⟩,
  ⟨(some 115), .mv (.t 2), none⟩,
  ⟨(some 116), .len false (.t 115), none⟩,
  ⟨(some 117), .bin .lss (.t 114) (.t 116), none⟩]
abbrev o_rotalaw04_PortCopies_29 : List IOper := [⟨(some 120), .mv (.t 19), none⟩,
  ⟨(some 121), .mv (.t 2), none⟩,
  ⟨(some 122), .mv (.t 20), none⟩,
  ⟨(some 123), .iaS 3 (.t 121) (.t 122), none⟩,
  ⟨(some 124), .ld (some 3) (.t 123), none⟩,
  ⟨(some 125), .call (.k (.c (.fn fn_rotalaw04_ask [] []))) [(.t 120), (.t 124)], none⟩]
abbrev o_rotalaw04_PortCopies_30 : List IOper := [⟨(some 118), .mv (.t 20), none⟩,
  ⟨(some 119), .bin .add (.t 118) (.k (.c (.int .i64 1))), none⟩,
  ⟨(some 20), .mv (.t 119), none⟩]
def b_rotalaw04_PortCopies_31 : IC := (.seq (.seq (.ops o_rotalaw04_PortCopies_28) (.cond (.t 117) .skip (.exit 6))) (.seq (.block 7 (.ops o_rotalaw04_PortCopies_29)) (.ops o_rotalaw04_PortCopies_30)))
abbrev o_rotalaw04_PortCopies_32 : List IOper := [⟨(some 126), .mv (.t 7), none⟩,
  ⟨(some 127), .mv (.t 126), none⟩,
  ⟨(some 128), .mv (.t 19), some (127, true)⟩,
  ⟨(some 129), .call (.k (.c (.fn fn_port_Box_Len [] []))) [(.t 128)], some (127, true)⟩,
  ⟨(some 130), .mv (.t 11), some (127, true)⟩,
  ⟨(some 131), .call (.k (.c (.fn fn_port_Box_Len [] []))) [(.t 130)], some (127, true)⟩,
  ⟨(some 132), .bin .eql (.t 129) (.t 131), some (127, true)⟩,
  ⟨(some 133), .pick (.t 127) (.t 132) (.k (.c (.bool false))), none⟩,
  ⟨(some 134), .mv (.t 133), none⟩,
  ⟨(some 135), .mv (.t 11), some (134, true)⟩,
  ⟨(some 136), .mv (.t 19), some (134, true)⟩,
  ⟨(some 137), .call (.k (.c (.fn fn_rotalaw04_same [] []))) [(.t 135), (.t 136)], some (134, true)⟩,
  ⟨(some 138), .pick (.t 134) (.t 137) (.k (.c (.bool false))), none⟩,
  ⟨(some 6), .mv (.t 138), none⟩]
def c_rotalaw04_PortCopies : IC := (.seq (.ops o_rotalaw04_PortCopies_0) (.seq (.ops o_rotalaw04_PortCopies_1) (.seq (.seq (.ops o_rotalaw04_PortCopies_2) (.cond (.t 33) (.seq (.ops o_rotalaw04_PortCopies_3) .ret) .skip)) (.seq (.ops o_rotalaw04_PortCopies_4) (.seq (.seq (.ops o_rotalaw04_PortCopies_5) (.cond (.t 41) (.seq (.ops o_rotalaw04_PortCopies_6) .ret) .skip)) (.seq (.seq (.ops o_rotalaw04_PortCopies_7) (.block 0 (.loop b_rotalaw04_PortCopies_11))) (.seq (.ops o_rotalaw04_PortCopies_12) (.seq (.seq (.ops o_rotalaw04_PortCopies_13) (.block 2 (.loop b_rotalaw04_PortCopies_20))) (.seq (.seq (.ops o_rotalaw04_PortCopies_21) (.block 4 (.loop b_rotalaw04_PortCopies_25))) (.seq (.ops o_rotalaw04_PortCopies_26) (.seq (.seq (.ops o_rotalaw04_PortCopies_27) (.block 6 (.loop b_rotalaw04_PortCopies_31))) (.seq (.ops o_rotalaw04_PortCopies_32) .ret))))))))))))
def i_rotalaw04_PortCopies : IFn := ⟨139, c_rotalaw04_PortCopies, [(6, none)]⟩

-- F 9 rota/rotalaw04.PortRefuses: bads 0, calls [10, 12, 24, 23, 24, 14, 14, 25]
abbrev o_rotalaw04_PortRefuses_0 : List IOper := [⟨(some 3), .box 30 (.t 0), none⟩,
  ⟨(some 5), .box 56 (.t 2), none⟩,
  ⟨(some 6), .mv (.k (.c (.bool false))), none⟩]
abbrev o_rotalaw04_PortRefuses_1 : List IOper := [⟨(some 15), .call (.k (.c (.fn fn_rotalaw04_alive [] []))) [], none⟩,
  ⟨(some 7), .mv (.t 15), none⟩]
abbrev o_rotalaw04_PortRefuses_2 : List IOper := [⟨(some 16), .mv (.t 1), none⟩,
  ⟨(some 17), .len false (.t 16), none⟩,
  ⟨(some 18), .bin .gtr (.t 17) (.k (.c (.int .i64 500))), none⟩,
  ⟨(some 19), .mv (.t 18), none⟩,
  ⟨(some 20), .fa 1 (.t 5), some (19, false)⟩,
  ⟨(some 21), .ld none (.t 20), some (19, false)⟩,
  ⟨(some 22), .len false (.t 21), some (19, false)⟩,
  ⟨(some 23), .bin .gtr (.t 22) (.k (.c (.int .i64 1000))), some (19, false)⟩,
  ⟨(some 24), .pick (.t 19) (.k (.c (.bool true))) (.t 23), none⟩,
  ⟨(some 25), .mv (.t 24), none⟩,
  ⟨(some 26), .mv (.t 7), some (25, false)⟩,
  ⟨(some 27), .un .not (.t 26), some (25, false)⟩,
  ⟨(some 28), .pick (.t 25) (.k (.c (.bool true))) (.t 27), none⟩]
abbrev o_rotalaw04_PortRefuses_3 : List IOper := [⟨(some 29), .mv (.t 7), none⟩,
  ⟨(some 6), .mv (.t 29), none⟩]
abbrev o_rotalaw04_PortRefuses_4 : List IOper := [⟨(some 31), .ld (some 6) (.t 3), none⟩,
  ⟨(some 32), .call (.k (.c (.fn fn_port_New [] []))) [(.t 31)], none⟩,
  ⟨(some 30), .mv (.t 32), none⟩,
  ⟨(some 33), .ext (.t 30) 0, none⟩,
  ⟨(some 34), .ext (.t 30) 1, none⟩,
  ⟨(some 8), .mv (.t 33), none⟩,
  ⟨(some 9), .mv (.t 34), none⟩]
abbrev o_rotalaw04_PortRefuses_5 : List IOper := [⟨(some 35), .mv (.t 9), none⟩,
  ⟨(some 36), .bin .neq (.t 35) (.k (.c (.int .i64 0))), none⟩]
abbrev o_rotalaw04_PortRefuses_6 : List IOper := [⟨(some 37), .mv (.t 7), none⟩,
  ⟨(some 6), .mv (.t 37), none⟩]
abbrev o_rotalaw04_PortRefuses_7 : List IOper := [⟨(some 10), .mv (.k (.c (.int .i64 0))), none⟩]
abbrev o_rotalaw04_PortRefuses_8 : List IOper := [⟨(some 38), .mv (.t 10), none⟩,
  ⟨(some 39), .mv (.t 1), none⟩,
  ⟨(some 40), .len false (.t 39), none⟩,
  ⟨(some 41), .bin .lss (.t 38) (.t 40), none⟩]
abbrev o_rotalaw04_PortRefuses_9 : List IOper := [⟨(some 44), .mv (.t 8), none⟩,
  ⟨(some 45), .mv (.t 1), none⟩,
  ⟨(some 46), .mv (.t 10), none⟩,
  ⟨(some 47), .iaS 3 (.t 45) (.t 46), none⟩,
  ⟨(some 48), .ld (some 3) (.t 47), none⟩,
  ⟨(some 49), .call (.k (.c (.fn fn_rotalaw04_ask [] []))) [(.t 44), (.t 48)], none⟩]
abbrev o_rotalaw04_PortRefuses_10 : List IOper := [⟨(some 42), .mv (.t 10), none⟩,
  ⟨(some 43), .bin .add (.t 42) (.k (.c (.int .i64 1))), none⟩,
  ⟨(some 10), .mv (.t 43), none⟩]
def b_rotalaw04_PortRefuses_11 : IC := (.seq (.seq (.ops o_rotalaw04_PortRefuses_8) (.cond (.t 41) .skip (.exit 0))) (.seq (.block 1 (.ops o_rotalaw04_PortRefuses_9)) (.ops o_rotalaw04_PortRefuses_10)))
abbrev o_rotalaw04_PortRefuses_12 : List IOper := [⟨(some 50), .mv (.t 8), none⟩,
  ⟨(some 51), .call (.k (.c (.fn fn_port_Box_Copy [] []))) [(.t 50)], none⟩,
  ⟨(some 11), .mv (.t 51), none⟩]
abbrev o_rotalaw04_PortRefuses_13 : List IOper := [⟨(some 53), .mv (.t 8), none⟩,
  ⟨(some 54), .ld (some 3) (.t 5), none⟩,
  ⟨(some 55), .call (.k (.c (.fn fn_rotalaw04_ask [] []))) [(.t 53), (.t 54)], none⟩,
  ⟨(some 52), .mv (.t 55), none⟩,
  ⟨(some 56), .ext (.t 52) 0, none⟩,
  ⟨(some 57), .ext (.t 52) 1, none⟩,
  ⟨(some 12), .mv (.t 56), none⟩,
  ⟨(some 13), .mv (.t 57), none⟩]
abbrev o_rotalaw04_PortRefuses_14 : List IOper := [⟨(some 58), .fa 0 (.t 5), none⟩,
  ⟨(some 59), .ld none (.t 58), none⟩,
  ⟨(some 60), .bin .neq (.t 59) (.k (.c (.int .i64 1))), none⟩,
  ⟨(some 61), .mv (.t 60), none⟩,
  ⟨(some 62), .mv (.t 13), some (61, true)⟩,
  ⟨(some 63), .bin .eql (.t 62) (.k (.c (.int .i64 40))), some (61, true)⟩,
  ⟨(some 64), .mv (.t 63), some (61, true)⟩,
  ⟨(some 65), .mv (.t 13), some (64, false)⟩,
  ⟨(some 66), .bin .eql (.t 65) (.k (.c (.int .i64 45))), some (64, false)⟩,
  ⟨(some 67), .pick (.t 64) (.k (.c (.bool true))) (.t 66), some (61, true)⟩,
  ⟨(some 68), .mv (.t 67), some (61, true)⟩,
  ⟨(some 69), .mv (.t 13), some (68, false)⟩,
  ⟨(some 70), .bin .eql (.t 69) (.k (.c (.int .i64 2))), some (68, false)⟩,
  ⟨(some 71), .pick (.t 68) (.k (.c (.bool true))) (.t 70), some (61, true)⟩,
  ⟨(some 72), .pick (.t 61) (.t 71) (.k (.c (.bool false))), none⟩,
  ⟨(some 14), .mv (.t 72), none⟩]
abbrev o_rotalaw04_PortRefuses_15 : List IOper := [⟨(some 73), .fa 0 (.t 5), none⟩,
  ⟨(some 74), .ld none (.t 73), none⟩,
  ⟨(some 75), .bin .neq (.t 74) (.k (.c (.int .i64 0))), none⟩,
  ⟨(some 76), .mv (.t 75), none⟩,
  ⟨(some 77), .fa 0 (.t 5), some (76, true)⟩,
  ⟨(some 78), .ld none (.t 77), some (76, true)⟩,
  ⟨(some 79), .bin .neq (.t 78) (.k (.c (.int .i64 2))), some (76, true)⟩,
  ⟨(some 80), .pick (.t 76) (.t 79) (.k (.c (.bool false))), none⟩,
  ⟨(some 81), .mv (.t 80), none⟩,
  ⟨(some 82), .fa 0 (.t 5), some (81, true)⟩,
  ⟨(some 83), .ld none (.t 82), some (81, true)⟩,
  ⟨(some 84), .bin .neq (.t 83) (.k (.c (.int .i64 3))), some (81, true)⟩,
  ⟨(some 85), .pick (.t 81) (.t 84) (.k (.c (.bool false))), none⟩,
  ⟨(some 86), .mv (.t 85), none⟩,
  ⟨(some 87), .mv (.t 14), some (86, false)⟩,
  ⟨(some 88), .un .not (.t 87), some (86, false)⟩,
  ⟨(some 89), .pick (.t 86) (.k (.c (.bool true))) (.t 88), none⟩]
abbrev o_rotalaw04_PortRefuses_16 : List IOper := [⟨(some 90), .mv (.t 7), none⟩,
  ⟨(some 6), .mv (.t 90), none⟩]
abbrev o_rotalaw04_PortRefuses_17 : List IOper := [⟨(some 91), .mv (.t 7), none⟩,
  ⟨(some 92), .mv (.t 91), none⟩,
  ⟨(some 93), .mv (.t 8), some (92, true)⟩,
  ⟨(some 94), .call (.k (.c (.fn fn_port_Box_Len [] []))) [(.t 93)], some (92, true)⟩,
  ⟨(some 95), .mv (.t 11), some (92, true)⟩,
  ⟨(some 96), .call (.k (.c (.fn fn_port_Box_Len [] []))) [(.t 95)], some (92, true)⟩,
  ⟨(some 97), .bin .eql (.t 94) (.t 96), some (92, true)⟩,
  ⟨(some 98), .pick (.t 92) (.t 97) (.k (.c (.bool false))), none⟩,
  ⟨(some 99), .mv (.t 98), none⟩,
  ⟨(some 100), .mv (.t 8), some (99, true)⟩,
  ⟨(some 101), .mv (.t 11), some (99, true)⟩,
  ⟨(some 102), .call (.k (.c (.fn fn_rotalaw04_same [] []))) [(.t 100), (.t 101)], some (99, true)⟩,
  ⟨(some 103), .pick (.t 99) (.t 102) (.k (.c (.bool false))), none⟩,
  ⟨(some 6), .mv (.t 103), none⟩]
def c_rotalaw04_PortRefuses : IC := (.seq (.ops o_rotalaw04_PortRefuses_0) (.seq (.ops o_rotalaw04_PortRefuses_1) (.seq (.seq (.ops o_rotalaw04_PortRefuses_2) (.cond (.t 28) (.seq (.ops o_rotalaw04_PortRefuses_3) .ret) .skip)) (.seq (.ops o_rotalaw04_PortRefuses_4) (.seq (.seq (.ops o_rotalaw04_PortRefuses_5) (.cond (.t 36) (.seq (.ops o_rotalaw04_PortRefuses_6) .ret) .skip)) (.seq (.seq (.ops o_rotalaw04_PortRefuses_7) (.block 0 (.loop b_rotalaw04_PortRefuses_11))) (.seq (.ops o_rotalaw04_PortRefuses_12) (.seq (.ops o_rotalaw04_PortRefuses_13) (.seq (.ops o_rotalaw04_PortRefuses_14) (.seq (.seq (.ops o_rotalaw04_PortRefuses_15) (.cond (.t 89) (.seq (.ops o_rotalaw04_PortRefuses_16) .ret) .skip)) (.seq (.ops o_rotalaw04_PortRefuses_17) .ret)))))))))))
def i_rotalaw04_PortRefuses : IFn := ⟨104, c_rotalaw04_PortRefuses, [(6, none)]⟩

-- F 10 rota/rotalaw04.alive: bads 0, calls [16, 12, 15, 15, 15, 13, 14]
abbrev o_rotalaw04_alive_0 : List IOper := [⟨(some 0), .mv (.k (.c (.bool false))), none⟩]
abbrev o_rotalaw04_alive_1 : List IOper := [⟨(some 9), .call (.k (.c (.fn fn_rotalaw04_queue [] []))) [(.k (.c (.int .i64 1))), (.k (.c (.int .i64 1))), (.k (.c (.int .i64 2)))], none⟩,
  ⟨(some 10), .call (.k (.c (.fn fn_port_New [] []))) [(.t 9)], none⟩,
  ⟨(some 8), .mv (.t 10), none⟩,
  ⟨(some 11), .ext (.t 8) 0, none⟩,
  ⟨(some 12), .ext (.t 8) 1, none⟩,
  ⟨(some 1), .mv (.t 11), none⟩,
  ⟨(some 2), .mv (.t 12), none⟩]
abbrev o_rotalaw04_alive_2 : List IOper := [⟨(some 13), .mv (.t 1), none⟩,
  ⟨(some 14), .bsl 5 1 [(.int .u8 0)] [(0, 1, (.k (.c (.int .u8 5))))], none⟩,
  ⟨(some 15), .call (.k (.c (.fn fn_port_Box_Send [] []))) [(.t 13), (.t 14)], none⟩,
  ⟨(some 16), .mv (.t 1), none⟩,
  ⟨(some 17), .bsl 5 1 [(.int .u8 0)] [(0, 1, (.k (.c (.int .u8 6))))], none⟩,
  ⟨(some 18), .call (.k (.c (.fn fn_port_Box_Send [] []))) [(.t 16), (.t 17)], none⟩,
  ⟨(some 19), .mv (.t 1), none⟩,
  ⟨(some 20), .bsl 5 1 [(.int .u8 0)] [(0, 1, (.k (.c (.int .u8 7))))], none⟩,
  ⟨(some 21), .call (.k (.c (.fn fn_port_Box_Send [] []))) [(.t 19), (.t 20)], none⟩,
  ⟨(some 3), .mv (.t 15), none⟩,
  ⟨(some 4), .mv (.t 18), none⟩,
  ⟨(some 5), .mv (.t 21), none⟩]
abbrev o_rotalaw04_alive_3 : List IOper := [⟨(some 23), .mv (.t 1), none⟩,
  ⟨(some 24), .call (.k (.c (.fn fn_port_Box_Take [] []))) [(.t 23)], none⟩,
  ⟨(some 22), .mv (.t 24), none⟩,
  ⟨(some 25), .ext (.t 22) 0, none⟩,
  ⟨(some 26), .ext (.t 22) 1, none⟩,
  ⟨(some 6), .mv (.t 25), none⟩,
  ⟨(some 7), .mv (.t 26), none⟩]
abbrev o_rotalaw04_alive_4 : List IOper := [⟨(some 27), .mv (.t 2), none⟩,
  ⟨(some 28), .bin .eql (.t 27) (.k (.c (.int .i64 0))), none⟩,
  ⟨(some 29), .mv (.t 28), none⟩,
  ⟨(some 30), .mv (.t 3), some (29, true)⟩,
  ⟨(some 31), .bin .eql (.t 30) (.k (.c (.int .i64 0))), some (29, true)⟩,
  ⟨(some 32), .pick (.t 29) (.t 31) (.k (.c (.bool false))), none⟩,
  ⟨(some 33), .mv (.t 32), none⟩,
  ⟨(some 34), .mv (.t 4), some (33, true)⟩,
  ⟨(some 35), .bin .eql (.t 34) (.k (.c (.int .i64 0))), some (33, true)⟩,
  ⟨(some 36), .pick (.t 33) (.t 35) (.k (.c (.bool false))), none⟩,
  ⟨(some 37), .mv (.t 36), none⟩,
  ⟨(some 38), .mv (.t 5), some (37, true)⟩,
  ⟨(some 39), .bin .eql (.t 38) (.k (.c (.int .i64 41))), some (37, true)⟩,
  ⟨(some 40), .pick (.t 37) (.t 39) (.k (.c (.bool false))), none⟩,
  ⟨(some 41), .mv (.t 40), none⟩,
  ⟨(some 42), .mv (.t 7), some (41, true)⟩,
  ⟨(some 43), .pick (.t 41) (.t 42) (.k (.c (.bool false))), none⟩,
  ⟨(some 44), .mv (.t 43), none⟩,
  ⟨(some 45), .mv (.t 6), some (44, true)⟩,
  ⟨(some 46), .b2s (.t 45), some (44, true)⟩,
  ⟨(some 47), .bin .eql (.t 46) (.k (.c (.str ⟨#[5]⟩))), some (44, true)⟩,
  ⟨(some 48), .pick (.t 44) (.t 47) (.k (.c (.bool false))), none⟩,
  ⟨(some 49), .mv (.t 48), none⟩,
  ⟨(some 50), .mv (.t 1), some (49, true)⟩,
  ⟨(some 51), .call (.k (.c (.fn fn_port_Box_Len [] []))) [(.t 50)], some (49, true)⟩,
  ⟨(some 52), .bin .eql (.t 51) (.k (.c (.int .i64 1))), some (49, true)⟩,
  ⟨(some 53), .pick (.t 49) (.t 52) (.k (.c (.bool false))), none⟩,
  ⟨(some 0), .mv (.t 53), none⟩]
def c_rotalaw04_alive : IC := (.seq (.ops o_rotalaw04_alive_0) (.seq (.ops o_rotalaw04_alive_1) (.seq (.ops o_rotalaw04_alive_2) (.seq (.ops o_rotalaw04_alive_3) (.seq (.ops o_rotalaw04_alive_4) .ret)))))
def i_rotalaw04_alive : IFn := ⟨54, c_rotalaw04_alive, [(0, none)]⟩

-- F 11 rota/rotalaw04.most: bads 0, calls []
abbrev o_rotalaw04_most_0 : List IOper := [⟨(some 4), .mv (.k (.c (.int .i64 0))), none⟩]
abbrev o_rotalaw04_most_1 : List IOper := [⟨(some 5), .mv (.t 0), none⟩,
  ⟨(some 6), .cv .i64 (.t 5), none⟩,
  ⟨(some 7), .mv (.t 1), none⟩,
  ⟨(some 8), .bin .rem (.t 6) (.t 7), none⟩,
  ⟨(some 9), .bin .add (.k (.c (.int .i64 1))) (.t 8), none⟩,
  ⟨(some 4), .mv (.t 9), none⟩]
def c_rotalaw04_most : IC := (.seq (.ops o_rotalaw04_most_0) (.seq (.ops o_rotalaw04_most_1) .ret))
def i_rotalaw04_most : IFn := ⟨10, c_rotalaw04_most, [(4, none)]⟩

-- F 12 rota/port.New: bads 0, calls [26]
abbrev o_port_New_0 : List IOper := [⟨(some 1), .box 30 (.t 0), none⟩,
  ⟨(some 2), .mv (.k (.c (.ptr none))), none⟩,
  ⟨(some 3), .mv (.k (.c (.int .i64 0))), none⟩]
abbrev o_port_New_1 : List IOper := [⟨(some 8), .fa 1 (.t 1), none⟩,
  ⟨(some 9), .ld none (.t 8), none⟩,
  ⟨(some 7), .call (.k (.c (.fn fn_port_kinds [] []))) [], none⟩,
  ⟨none, .same (some none) (.t 8) (.t 9), none⟩,
  ⟨(some 10), .look .int (.c (.ptr none)) false (.t 7) (.t 9), none⟩,
  ⟨(some 4), .mv (.t 10), none⟩]
abbrev o_port_New_2 : List IOper := [⟨(some 11), .mv (.t 4), none⟩,
  ⟨(some 12), .eq .ptr false (.t 11) (.k (.c (.ptr none))), none⟩,
  ⟨(some 13), .mv (.t 12), none⟩,
  ⟨(some 14), .fa 2 (.t 1), some (13, false)⟩,
  ⟨(some 15), .ld none (.t 14), some (13, false)⟩,
  ⟨(some 16), .bin .neq (.t 15) (.k (.c (.int .i64 1))), some (13, false)⟩,
  ⟨(some 17), .mv (.t 16), some (13, false)⟩,
  ⟨(some 18), .fa 2 (.t 1), some (17, true)⟩,
  ⟨(some 19), .ld none (.t 18), some (17, true)⟩,
  ⟨(some 20), .bin .neq (.t 19) (.k (.c (.int .i64 2))), some (17, true)⟩,
  ⟨(some 21), .pick (.t 17) (.t 20) (.k (.c (.bool false))), some (13, false)⟩,
  ⟨(some 22), .pick (.t 13) (.k (.c (.bool true))) (.t 21), none⟩,
  ⟨(some 23), .mv (.t 22), none⟩,
  ⟨(some 24), .fa 3 (.t 1), some (23, false)⟩,
  ⟨(some 25), .ld none (.t 24), some (23, false)⟩,
  ⟨(some 26), .bin .lss (.t 25) (.k (.c (.int .i64 1))), some (23, false)⟩,
  ⟨(some 27), .pick (.t 23) (.k (.c (.bool true))) (.t 26), none⟩,
  ⟨(some 28), .mv (.t 27), none⟩,
  ⟨(some 29), .fa 3 (.t 1), some (28, false)⟩,
  ⟨(some 30), .ld none (.t 29), some (28, false)⟩,
  ⟨(some 31), .bin .gtr (.t 30) (.k (.c (.int .i64 32))), some (28, false)⟩,
  ⟨(some 32), .pick (.t 28) (.k (.c (.bool true))) (.t 31), none⟩]
abbrev o_port_New_3 : List IOper := [⟨(some 2), .mv (.k (.c (.ptr none))), none⟩,
  ⟨(some 3), .mv (.k (.c (.int .i64 40))), none⟩]
abbrev o_port_New_4 : List IOper := [⟨(some 33), .fa 4 (.t 1), none⟩,
  ⟨(some 34), .ld none (.t 33), none⟩,
  ⟨(some 35), .bin .eql (.t 34) (.k (.c (.int .i64 0))), none⟩,
  ⟨(some 36), .fa 5 (.t 1), none⟩,
  ⟨(some 37), .ld none (.t 36), none⟩,
  ⟨(some 38), .bin .eql (.t 37) (.k (.c (.int .i64 0))), none⟩,
  ⟨(some 5), .mv (.t 35), none⟩,
  ⟨(some 6), .mv (.t 38), none⟩]
abbrev o_port_New_5 : List IOper := [⟨(some 39), .fa 1 (.t 1), none⟩,
  ⟨(some 40), .ld none (.t 39), none⟩,
  ⟨(some 41), .bin .eql (.t 40) (.k (.c (.int .i64 2))), none⟩]
abbrev o_port_New_6 : List IOper := [⟨(some 42), .fa 4 (.t 1), none⟩,
  ⟨(some 43), .ld none (.t 42), none⟩,
  ⟨(some 44), .bin .geq (.t 43) (.k (.c (.int .i64 1))), none⟩,
  ⟨(some 45), .mv (.t 44), none⟩,
  ⟨(some 46), .fa 4 (.t 1), some (45, true)⟩,
  ⟨(some 47), .ld none (.t 46), some (45, true)⟩,
  ⟨(some 48), .bin .leq (.t 47) (.k (.c (.int .i64 8))), some (45, true)⟩,
  ⟨(some 49), .pick (.t 45) (.t 48) (.k (.c (.bool false))), none⟩,
  ⟨(some 5), .mv (.t 49), none⟩]
abbrev o_port_New_7 : List IOper := [⟨(some 50), .fa 2 (.t 1), none⟩,
  ⟨(some 51), .ld none (.t 50), none⟩,
  ⟨(some 52), .bin .eql (.t 51) (.k (.c (.int .i64 2))), none⟩]
abbrev o_port_New_8 : List IOper := [⟨(some 53), .fa 5 (.t 1), none⟩,
  ⟨(some 54), .ld none (.t 53), none⟩,
  ⟨(some 55), .bin .geq (.t 54) (.k (.c (.int .i64 1))), none⟩,
  ⟨(some 56), .mv (.t 55), none⟩,
  ⟨(some 57), .fa 5 (.t 1), some (56, true)⟩,
  ⟨(some 58), .ld none (.t 57), some (56, true)⟩,
  ⟨(some 59), .bin .leq (.t 58) (.k (.c (.int .i64 65535))), some (56, true)⟩,
  ⟨(some 60), .pick (.t 56) (.t 59) (.k (.c (.bool false))), none⟩,
  ⟨(some 6), .mv (.t 60), none⟩]
abbrev o_port_New_9 : List IOper := [⟨(some 61), .mv (.t 5), none⟩,
  ⟨(some 62), .un .not (.t 61), none⟩,
  ⟨(some 63), .mv (.t 62), none⟩,
  ⟨(some 64), .mv (.t 6), some (63, false)⟩,
  ⟨(some 65), .un .not (.t 64), some (63, false)⟩,
  ⟨(some 66), .pick (.t 63) (.k (.c (.bool true))) (.t 65), none⟩]
abbrev o_port_New_10 : List IOper := [⟨(some 2), .mv (.k (.c (.ptr none))), none⟩,
  ⟨(some 3), .mv (.k (.c (.int .i64 40))), none⟩]
abbrev o_port_New_11 : List IOper := [⟨(some 67), .ld (some 6) (.t 1), none⟩,
  ⟨(some 68), .mv (.t 4), none⟩,
  ⟨(some 69), .build (List.replicate 6 (.int .i64 0) ++ [(.ptr none)] ++ [(.sl none 0 0 false)] ++ [(.int .i64 0)] ++ [(.bool false)]) [(0, 6, (.t 67)), (6, 1, (.t 68))], none⟩,
  ⟨(some 70), .box 64 (.t 69), none⟩,
  ⟨(some 2), .mv (.t 70), none⟩,
  ⟨(some 3), .mv (.k (.c (.int .i64 0))), none⟩]
def c_port_New : IC := (.seq (.ops o_port_New_0) (.seq (.ops o_port_New_1) (.seq (.seq (.ops o_port_New_2) (.cond (.t 32) (.seq (.ops o_port_New_3) .ret) .skip)) (.seq (.ops o_port_New_4) (.seq (.seq (.ops o_port_New_5) (.cond (.t 41) (.ops o_port_New_6) (.seq (.ops o_port_New_7) (.cond (.t 52) (.ops o_port_New_8) .skip)))) (.seq (.seq (.ops o_port_New_9) (.cond (.t 66) (.seq (.ops o_port_New_10) .ret) .skip)) (.seq (.ops o_port_New_11) .ret)))))))
def i_port_New : IFn := ⟨71, c_port_New, [(2, none), (3, none)]⟩

-- F 13 (*rota/port.Box).Take: bads 0, calls [27]
abbrev o_port_Box_Take_0 : List IOper := [⟨(some 2), .mv (.k (.c (.sl none 0 0 false))), none⟩,
  ⟨(some 3), .mv (.k (.c (.bool false))), none⟩]
abbrev o_port_Box_Take_1 : List IOper := [⟨(some 4), .mv (.t 0), none⟩,
  ⟨(some 5), .call (.k (.c (.fn fn_port_Box_is [] []))) [(.t 4), (.k (.c (.int .i64 1)))], none⟩,
  ⟨(some 6), .bin .neq (.t 5) (.k (.c (.int .i64 0))), none⟩]
abbrev o_port_Box_Take_2 : List IOper := [⟨(some 2), .mv (.k (.c (.sl none 0 0 false))), none⟩,
  ⟨(some 3), .mv (.k (.c (.bool false))), none⟩]
abbrev o_port_Box_Take_3 : List IOper := [⟨(some 7), .mv (.t 0), none⟩,
  ⟨(some 8), .nilck (.t 7), none⟩,
  ⟨(some 9), .fa 6 (.t 8), none⟩,
  ⟨(some 10), .ld none (.t 9), none⟩,
  ⟨(some 11), .nilck (.t 10), none⟩,
  ⟨(some 12), .fa 1 (.t 11), none⟩,
  ⟨(some 13), .ld none (.t 12), none⟩,
  ⟨(some 14), .mv (.t 0), none⟩,
  ⟨(some 15), .call (.t 13) [(.t 14)], none⟩,
  ⟨(some 16), .ext (.t 15) 0, none⟩,
  ⟨(some 17), .ext (.t 15) 1, none⟩,
  ⟨(some 2), .mv (.t 16), none⟩,
  ⟨(some 3), .mv (.t 17), none⟩]
def c_port_Box_Take : IC := (.seq (.ops o_port_Box_Take_0) (.seq (.seq (.ops o_port_Box_Take_1) (.cond (.t 6) (.seq (.ops o_port_Box_Take_2) .ret) .skip)) (.seq (.ops o_port_Box_Take_3) .ret)))
def i_port_Box_Take : IFn := ⟨18, c_port_Box_Take, [(2, none), (3, none)]⟩

-- F 14 (*rota/port.Box).Len: bads 0, calls []
abbrev o_port_Box_Len_0 : List IOper := [⟨(some 2), .mv (.k (.c (.int .i64 0))), none⟩]
abbrev o_port_Box_Len_1 : List IOper := [⟨(some 3), .mv (.t 0), none⟩,
  ⟨(some 4), .eq .ptr false (.t 3) (.k (.c (.ptr none))), none⟩]
abbrev o_port_Box_Len_2 : List IOper := [⟨(some 2), .mv (.k (.c (.int .i64 0))), none⟩]
abbrev o_port_Box_Len_3 : List IOper := [⟨(some 5), .mv (.t 0), none⟩,
  ⟨(some 6), .nilck (.t 5), none⟩,
  ⟨(some 7), .fa 7 (.t 6), none⟩,
  ⟨(some 8), .ld none (.t 7), none⟩,
  ⟨(some 9), .len false (.t 8), none⟩,
  ⟨(some 2), .mv (.t 9), none⟩]
def c_port_Box_Len : IC := (.seq (.ops o_port_Box_Len_0) (.seq (.seq (.ops o_port_Box_Len_1) (.cond (.t 4) (.seq (.ops o_port_Box_Len_2) .ret) .skip)) (.seq (.ops o_port_Box_Len_3) .ret)))
def i_port_Box_Len : IFn := ⟨10, c_port_Box_Len, [(2, none)]⟩

-- F 15 (*rota/port.Box).Send: bads 0, calls [27]
abbrev o_port_Box_Send_0 : List IOper := [⟨(some 4), .mv (.k (.c (.int .i64 0))), none⟩]
abbrev o_port_Box_Send_1 : List IOper := [⟨(some 6), .mv (.t 0), none⟩,
  ⟨(some 7), .call (.k (.c (.fn fn_port_Box_is [] []))) [(.t 6), (.k (.c (.int .i64 1)))], none⟩,
  ⟨(some 5), .mv (.t 7), none⟩]
abbrev o_port_Box_Send_2 : List IOper := [⟨(some 8), .mv (.t 5), none⟩,
  ⟨(some 9), .bin .neq (.t 8) (.k (.c (.int .i64 0))), none⟩]
abbrev o_port_Box_Send_3 : List IOper := [⟨(some 10), .mv (.t 5), none⟩,
  ⟨(some 4), .mv (.t 10), none⟩]
abbrev o_port_Box_Send_4 : List IOper := [⟨(some 11), .mv (.t 1), none⟩,
  ⟨(some 12), .len false (.t 11), none⟩,
  ⟨(some 13), .mv (.t 0), none⟩,
  ⟨(some 14), .nilck (.t 13), none⟩,
  ⟨(some 15), .fa 0 (.t 14), none⟩,
  ⟨(some 16), .fa 3 (.t 15), none⟩,
  ⟨(some 17), .ld none (.t 16), none⟩,
  ⟨(some 18), .bin .neq (.t 12) (.t 17), none⟩]
abbrev o_port_Box_Send_5 : List IOper := [⟨(some 4), .mv (.k (.c (.int .i64 45))), none⟩]
abbrev o_port_Box_Send_6 : List IOper := [⟨(some 19), .mv (.t 0), none⟩,
  ⟨(some 20), .nilck (.t 19), none⟩,
  ⟨(some 21), .fa 6 (.t 20), none⟩,
  ⟨(some 22), .ld none (.t 21), none⟩,
  ⟨(some 23), .nilck (.t 22), none⟩,
  ⟨(some 24), .fa 0 (.t 23), none⟩,
  ⟨(some 25), .ld none (.t 24), none⟩,
  ⟨(some 26), .mv (.t 0), none⟩,
  ⟨(some 27), .mv (.t 1), none⟩,
  ⟨(some 28), .call (.t 25) [(.t 26), (.t 27)], none⟩,
  ⟨(some 4), .mv (.t 28), none⟩]
def c_port_Box_Send : IC := (.seq (.ops o_port_Box_Send_0) (.seq (.seq (.ops o_port_Box_Send_1) (.seq (.ops o_port_Box_Send_2) (.cond (.t 9) (.seq (.ops o_port_Box_Send_3) .ret) .skip))) (.seq (.seq (.ops o_port_Box_Send_4) (.cond (.t 18) (.seq (.ops o_port_Box_Send_5) .ret) .skip)) (.seq (.ops o_port_Box_Send_6) .ret))))
def i_port_Box_Send : IFn := ⟨29, c_port_Box_Send, [(4, none)]⟩

-- F 16 rota/rotalaw04.queue: bads 0, calls []
abbrev o_rotalaw04_queue_0 : List IOper := [⟨(some 6), .new 30 (.agg (List.replicate 6 (.int .i64 0))), none⟩]
abbrev o_rotalaw04_queue_1 : List IOper := [⟨(some 7), .mv (.t 0), none⟩,
  ⟨(some 8), .mv (.t 1), none⟩,
  ⟨(some 9), .mv (.t 2), none⟩,
  ⟨(some 10), .build (List.replicate 6 (.int .i64 0)) [(1, 1, (.k (.c (.int .i64 2)))), (2, 1, (.t 7)), (3, 1, (.t 8)), (4, 1, (.t 9))], none⟩,
  ⟨none, .st 6 (.t 6) (.t 10), none⟩]
def c_rotalaw04_queue : IC := (.seq (.ops o_rotalaw04_queue_0) (.seq (.ops o_rotalaw04_queue_1) .ret))
def i_rotalaw04_queue : IFn := ⟨11, c_rotalaw04_queue, [(6, (some (some 6)))]⟩

-- F 17 (*rota/port.Box).Recv: bads 0, calls [27]
abbrev o_port_Box_Recv_0 : List IOper := [⟨(some 4), .mv (.k (.c (.sl none 0 0 false))), none⟩,
  ⟨(some 5), .mv (.k (.c (.int .i64 0))), none⟩]
abbrev o_port_Box_Recv_1 : List IOper := [⟨(some 10), .mv (.t 0), none⟩,
  ⟨(some 11), .call (.k (.c (.fn fn_port_Box_is [] []))) [(.t 10), (.k (.c (.int .i64 2)))], none⟩,
  ⟨(some 6), .mv (.t 11), none⟩]
abbrev o_port_Box_Recv_2 : List IOper := [⟨(some 12), .mv (.t 6), none⟩,
  ⟨(some 13), .bin .neq (.t 12) (.k (.c (.int .i64 0))), none⟩]
abbrev o_port_Box_Recv_3 : List IOper := [⟨(some 14), .mv (.t 6), none⟩,
  ⟨(some 4), .mv (.k (.c (.sl none 0 0 false))), none⟩,
  ⟨(some 5), .mv (.t 14), none⟩]
abbrev o_port_Box_Recv_4 : List IOper := [⟨(some 15), .mv (.t 1), none⟩,
  ⟨(some 16), .bin .lss (.t 15) (.k (.c (.int .i64 0))), none⟩]
abbrev o_port_Box_Recv_5 : List IOper := [⟨(some 4), .mv (.k (.c (.sl none 0 0 false))), none⟩,
  ⟨(some 5), .mv (.k (.c (.int .i64 2))), none⟩]
abbrev o_port_Box_Recv_6 : List IOper := [⟨(some 17), .mv (.t 0), none⟩,
  ⟨(some 18), .nilck (.t 17), none⟩,
  ⟨(some 19), .fa 6 (.t 18), none⟩,
  ⟨(some 20), .ld none (.t 19), none⟩,
  ⟨(some 21), .nilck (.t 20), none⟩,
  ⟨(some 22), .fa 2 (.t 21), none⟩,
  ⟨(some 23), .ld none (.t 22), none⟩,
  ⟨(some 24), .mv (.t 0), none⟩,
  ⟨(some 25), .mv (.t 1), none⟩,
  ⟨(some 26), .call (.t 23) [(.t 24), (.t 25)], none⟩,
  ⟨(some 7), .mv (.t 26), none⟩]
abbrev o_port_Box_Recv_7 : List IOper := [⟨(some 27), .mv (.t 7), none⟩,
  ⟨(some 28), .bin .neq (.t 27) (.k (.c (.int .i64 0))), none⟩]
abbrev o_port_Box_Recv_8 : List IOper := [⟨(some 29), .mv (.t 7), none⟩,
  ⟨(some 4), .mv (.k (.c (.sl none 0 0 false))), none⟩,
  ⟨(some 5), .mv (.t 29), none⟩]
abbrev o_port_Box_Recv_9 : List IOper := [⟨(some 31), .mv (.t 0), none⟩,
  ⟨(some 32), .nilck (.t 31), none⟩,
  ⟨(some 33), .fa 6 (.t 32), none⟩,
  ⟨(some 34), .ld none (.t 33), none⟩,
  ⟨(some 35), .nilck (.t 34), none⟩,
  ⟨(some 36), .fa 1 (.t 35), none⟩,
  ⟨(some 37), .ld none (.t 36), none⟩,
  ⟨(some 38), .mv (.t 0), none⟩,
  ⟨(some 39), .call (.t 37) [(.t 38)], none⟩,
  ⟨(some 30), .mv (.t 39), none⟩,
  ⟨(some 40), .ext (.t 30) 0, none⟩,
  ⟨(some 41), .ext (.t 30) 1, none⟩,
  ⟨(some 8), .mv (.t 40), none⟩,
  ⟨(some 9), .mv (.t 41), none⟩]
abbrev o_port_Box_Recv_10 : List IOper := [⟨(some 42), .mv (.t 9), none⟩,
  ⟨(some 43), .un .not (.t 42), none⟩]
abbrev o_port_Box_Recv_11 : List IOper := [⟨(some 4), .mv (.k (.c (.sl none 0 0 false))), none⟩,
  ⟨(some 5), .mv (.k (.c (.int .i64 42))), none⟩]
abbrev o_port_Box_Recv_12 : List IOper := [⟨(some 44), .mv (.t 8), none⟩,
  ⟨(some 4), .mv (.t 44), none⟩,
  ⟨(some 5), .mv (.k (.c (.int .i64 0))), none⟩]
def c_port_Box_Recv : IC := (.seq (.ops o_port_Box_Recv_0) (.seq (.seq (.ops o_port_Box_Recv_1) (.seq (.ops o_port_Box_Recv_2) (.cond (.t 13) (.seq (.ops o_port_Box_Recv_3) .ret) .skip))) (.seq (.seq (.ops o_port_Box_Recv_4) (.cond (.t 16) (.seq (.ops o_port_Box_Recv_5) .ret) .skip)) (.seq (.seq (.ops o_port_Box_Recv_6) (.seq (.ops o_port_Box_Recv_7) (.cond (.t 28) (.seq (.ops o_port_Box_Recv_8) .ret) .skip))) (.seq (.ops o_port_Box_Recv_9) (.seq (.seq (.ops o_port_Box_Recv_10) (.cond (.t 43) (.seq (.ops o_port_Box_Recv_11) .ret) .skip)) (.seq (.ops o_port_Box_Recv_12) .ret)))))))
def i_port_Box_Recv : IFn := ⟨45, c_port_Box_Recv, [(4, none), (5, none)]⟩

-- F 18 (*rota/port.Box).Arrive: bads 0, calls [27]
abbrev o_port_Box_Arrive_0 : List IOper := [⟨(some 6), .mv (.k (.c (.int .i64 0))), none⟩]
abbrev o_port_Box_Arrive_1 : List IOper := [⟨(some 9), .mv (.t 0), none⟩,
  ⟨(some 10), .call (.k (.c (.fn fn_port_Box_is [] []))) [(.t 9), (.k (.c (.int .i64 2)))], none⟩,
  ⟨(some 7), .mv (.t 10), none⟩]
abbrev o_port_Box_Arrive_2 : List IOper := [⟨(some 11), .mv (.t 7), none⟩,
  ⟨(some 12), .bin .neq (.t 11) (.k (.c (.int .i64 0))), none⟩]
abbrev o_port_Box_Arrive_3 : List IOper := [⟨(some 13), .mv (.t 7), none⟩,
  ⟨(some 6), .mv (.t 13), none⟩]
abbrev o_port_Box_Arrive_4 : List IOper := [⟨(some 14), .mv (.t 2), none⟩,
  ⟨(some 15), .bin .lss (.t 14) (.k (.c (.int .i64 0))), none⟩]
abbrev o_port_Box_Arrive_5 : List IOper := [⟨(some 6), .mv (.k (.c (.int .i64 2))), none⟩]
abbrev o_port_Box_Arrive_6 : List IOper := [⟨(some 16), .mv (.t 1), none⟩,
  ⟨(some 17), .len false (.t 16), none⟩,
  ⟨(some 18), .mv (.t 0), none⟩,
  ⟨(some 19), .nilck (.t 18), none⟩,
  ⟨(some 20), .fa 0 (.t 19), none⟩,
  ⟨(some 21), .fa 3 (.t 20), none⟩,
  ⟨(some 22), .ld none (.t 21), none⟩,
  ⟨(some 23), .bin .neq (.t 17) (.t 22), none⟩]
abbrev o_port_Box_Arrive_7 : List IOper := [⟨(some 6), .mv (.k (.c (.int .i64 45))), none⟩]
abbrev o_port_Box_Arrive_8 : List IOper := [⟨(some 24), .mv (.t 0), none⟩,
  ⟨(some 25), .nilck (.t 24), none⟩,
  ⟨(some 26), .fa 6 (.t 25), none⟩,
  ⟨(some 27), .ld none (.t 26), none⟩,
  ⟨(some 28), .nilck (.t 27), none⟩,
  ⟨(some 29), .fa 0 (.t 28), none⟩,
  ⟨(some 30), .ld none (.t 29), none⟩,
  ⟨(some 31), .mv (.t 0), none⟩,
  ⟨(some 32), .mv (.t 1), none⟩,
  ⟨(some 33), .call (.t 30) [(.t 31), (.t 32)], none⟩,
  ⟨(some 8), .mv (.t 33), none⟩]
abbrev o_port_Box_Arrive_9 : List IOper := [⟨(some 34), .mv (.t 8), none⟩,
  ⟨(some 35), .bin .eql (.t 34) (.k (.c (.int .i64 0))), none⟩]
abbrev o_port_Box_Arrive_10 : List IOper := [⟨(some 36), .mv (.t 0), none⟩,
  ⟨(some 37), .mv (.t 2), none⟩,
  ⟨(some 38), .nilck (.t 36), none⟩,
  ⟨(some 39), .fa 8 (.t 38), none⟩,
  ⟨none, .st 1 (.t 39) (.t 37), none⟩]
abbrev o_port_Box_Arrive_11 : List IOper := [⟨(some 40), .mv (.t 0), none⟩,
  ⟨(some 41), .nilck (.t 40), none⟩,
  ⟨(some 42), .fa 9 (.t 41), none⟩,
  ⟨none, .st 1 (.t 42) (.k (.c (.bool true))), none⟩]
abbrev o_port_Box_Arrive_12 : List IOper := [⟨(some 43), .mv (.t 8), none⟩,
  ⟨(some 6), .mv (.t 43), none⟩]
def c_port_Box_Arrive : IC := (.seq (.ops o_port_Box_Arrive_0) (.seq (.seq (.ops o_port_Box_Arrive_1) (.seq (.ops o_port_Box_Arrive_2) (.cond (.t 12) (.seq (.ops o_port_Box_Arrive_3) .ret) .skip))) (.seq (.seq (.ops o_port_Box_Arrive_4) (.cond (.t 15) (.seq (.ops o_port_Box_Arrive_5) .ret) .skip)) (.seq (.seq (.ops o_port_Box_Arrive_6) (.cond (.t 23) (.seq (.ops o_port_Box_Arrive_7) .ret) .skip)) (.seq (.ops o_port_Box_Arrive_8) (.seq (.seq (.ops o_port_Box_Arrive_9) (.cond (.t 35) (.ops o_port_Box_Arrive_10) (.ops o_port_Box_Arrive_11))) (.seq (.ops o_port_Box_Arrive_12) .ret)))))))
def i_port_Box_Arrive : IFn := ⟨44, c_port_Box_Arrive, [(6, none)]⟩

-- F 19 rota/rotalaw04.sample: bads 0, calls []
abbrev o_rotalaw04_sample_0 : List IOper := [⟨(some 4), .new 30 (.agg (List.replicate 6 (.int .i64 0))), none⟩]
abbrev o_rotalaw04_sample_1 : List IOper := [⟨(some 5), .mv (.t 0), none⟩,
  ⟨(some 6), .mv (.t 1), none⟩,
  ⟨(some 7), .build (List.replicate 6 (.int .i64 0)) [(1, 1, (.k (.c (.int .i64 1)))), (2, 1, (.k (.c (.int .i64 2)))), (3, 1, (.t 5)), (5, 1, (.t 6))], none⟩,
  ⟨none, .st 6 (.t 4) (.t 7), none⟩]
def c_rotalaw04_sample : IC := (.seq (.ops o_rotalaw04_sample_0) (.seq (.ops o_rotalaw04_sample_1) .ret))
def i_rotalaw04_sample : IFn := ⟨8, c_rotalaw04_sample, [(4, (some (some 6)))]⟩

-- F 20 rota/rotaref04.New: bads 0, calls [28]
abbrev o_rotaref04_New_0 : List IOper := [⟨(some 1), .box 30 (.t 0), none⟩,
  ⟨(some 2), .new 49 (.agg (List.replicate 6 (.int .i64 0) ++ [(.sl none 0 0 false)] ++ [(.int .i64 0)] ++ [(.bool false)])), none⟩,
  ⟨(some 3), .mv (.k (.c (.int .i64 0))), none⟩]
abbrev o_rotaref04_New_1 : List IOper := [⟨(some 5), .ld (some 6) (.t 1), none⟩,
  ⟨(some 6), .call (.k (.c (.fn fn_rotaref02_Alone [] []))) [(.t 5)], none⟩,
  ⟨(some 4), .mv (.t 6), none⟩]
abbrev o_rotaref04_New_2 : List IOper := [⟨(some 7), .mv (.t 4), none⟩,
  ⟨(some 8), .un .not (.t 7), none⟩]
abbrev o_rotaref04_New_3 : List IOper := [⟨(some 9), .build (List.replicate 6 (.int .i64 0) ++ [(.sl none 0 0 false)] ++ [(.int .i64 0)] ++ [(.bool false)]) [], none⟩,
  ⟨none, .st 9 (.t 2) (.t 9), none⟩,
  ⟨(some 3), .mv (.k (.c (.int .i64 40))), none⟩]
abbrev o_rotaref04_New_4 : List IOper := [⟨(some 10), .ld (some 6) (.t 1), none⟩,
  ⟨(some 11), .build (List.replicate 6 (.int .i64 0) ++ [(.sl none 0 0 false)] ++ [(.int .i64 0)] ++ [(.bool false)]) [(0, 6, (.t 10))], none⟩,
  ⟨none, .st 9 (.t 2) (.t 11), none⟩,
  ⟨(some 3), .mv (.k (.c (.int .i64 0))), none⟩]
def c_rotaref04_New : IC := (.seq (.ops o_rotaref04_New_0) (.seq (.ops o_rotaref04_New_1) (.seq (.seq (.ops o_rotaref04_New_2) (.cond (.t 8) (.seq (.ops o_rotaref04_New_3) .ret) .skip)) (.seq (.ops o_rotaref04_New_4) .ret))))
def i_rotaref04_New : IFn := ⟨12, c_rotaref04_New, [(2, (some (some 9))), (3, none)]⟩

-- F 21 rota/rotalaw04.do: bads 0, calls [29, 15, 30, 13, 31, 32, 18, 33, 17, 34, 32, 14, 23, 15, 13, 17, 18, 18]
abbrev o_rotalaw04_do_0 : List IOper := [⟨(some 6), .box 56 (.t 2), none⟩,
  ⟨(some 8), .mv (.k (.c (.ptr none))), none⟩,
  ⟨(some 9), .mv (.k (.c (.bool false))), none⟩]
abbrev o_rotalaw04_do_1 : List IOper := [⟨(some 29), .fa 1 (.t 6), none⟩,
  ⟨(some 30), .ld none (.t 29), none⟩,
  ⟨(some 31), .call (.k (.c (.fn fn_rotaref04_Twin [] []))) [(.t 30)], none⟩,
  ⟨(some 32), .bsl 5 1 [(.int .u8 0)] [(0, 1, (.k (.c (.int .u8 7))))], none⟩,
  ⟨(some 33), .app 5 1 1 (.t 31) (.t 32), none⟩,
  ⟨(some 10), .mv (.t 33), none⟩]
abbrev o_rotalaw04_do_2 : List IOper := [⟨(some 34), .mv (.t 10), none⟩,
  ⟨(some 35), .fa 1 (.t 6), none⟩,
  ⟨(some 36), .ld none (.t 35), none⟩,
  ⟨(some 37), .len false (.t 36), none⟩,
  ⟨(some 38), .slS 1 (.t 34) none (some (.t 37)) none, none⟩,
  ⟨(some 11), .mv (.t 38), none⟩]
abbrev o_rotalaw04_do_3 : List IOper := [⟨(some 12), .mv (.k (.c (.bool true))), none⟩]
abbrev o_rotalaw04_do_4 : List IOper := [⟨(some 39), .fa 0 (.t 6), none⟩,
  ⟨(some 40), .ld none (.t 39), none⟩]
abbrev o_rotalaw04_do_5 : List IOper := [⟨(some 42), .bin .eql (.t 40) (.k (.c (.int .i64 0))), none⟩,
  ⟨(some 41), .mv (.t 42), none⟩]
abbrev o_rotalaw04_do_6 : List IOper := [⟨(some 47), .fa 1 (.t 6), none⟩,
  ⟨(some 48), .ld none (.t 47), none⟩,
  ⟨(some 46), .mv (.t 1), none⟩,
  ⟨(some 44), .mv (.t 11), none⟩,
  ⟨(some 43), .mv (.t 0), none⟩,
  ⟨(some 45), .call (.k (.c (.fn fn_port_Box_Send [] []))) [(.t 43), (.t 44)], none⟩,
  ⟨none, .same (some none) (.t 47) (.t 48), none⟩,
  ⟨(some 49), .call (.k (.c (.fn fn_rotaref04_Box_Send [] []))) [(.t 46), (.t 48)], none⟩,
  ⟨(some 50), .bin .eql (.t 45) (.t 49), none⟩,
  ⟨(some 12), .mv (.t 50), none⟩]
abbrev o_rotalaw04_do_7 : List IOper := [⟨(some 52), .bin .eql (.t 40) (.k (.c (.int .i64 1))), none⟩,
  ⟨(some 51), .mv (.t 52), none⟩]
abbrev o_rotalaw04_do_8 : List IOper := [⟨(some 54), .mv (.t 0), none⟩,
  ⟨(some 55), .call (.k (.c (.fn fn_port_Box_Take [] []))) [(.t 54)], none⟩,
  ⟨(some 53), .mv (.t 55), none⟩,
  ⟨(some 56), .ext (.t 53) 0, none⟩,
  ⟨(some 57), .ext (.t 53) 1, none⟩,
  ⟨(some 13), .mv (.t 56), none⟩,
  ⟨(some 14), .mv (.t 57), none⟩]
abbrev o_rotalaw04_do_9 : List IOper := [⟨(some 59), .mv (.t 1), none⟩,
  ⟨(some 60), .call (.k (.c (.fn fn_rotaref04_Box_Take [] []))) [(.t 59)], none⟩,
  ⟨(some 58), .mv (.t 60), none⟩,
  ⟨(some 61), .ext (.t 58) 0, none⟩,
  ⟨(some 62), .ext (.t 58) 1, none⟩,
  ⟨(some 15), .mv (.t 61), none⟩,
  ⟨(some 16), .mv (.t 62), none⟩]
abbrev o_rotalaw04_do_10 : List IOper := [⟨(some 63), .mv (.t 13), none⟩,
  ⟨(some 64), .b2s (.t 63), none⟩,
  ⟨(some 65), .mv (.t 15), none⟩,
  ⟨(some 66), .b2s (.t 65), none⟩,
  ⟨(some 67), .bin .eql (.t 64) (.t 66), none⟩,
  ⟨(some 68), .mv (.t 67), none⟩,
  ⟨(some 69), .mv (.t 14), some (68, true)⟩,
  ⟨(some 70), .mv (.t 16), some (68, true)⟩,
  ⟨(some 71), .eq .bool false (.t 69) (.t 70), some (68, true)⟩,
  ⟨(some 72), .pick (.t 68) (.t 71) (.k (.c (.bool false))), none⟩,
  ⟨(some 12), .mv (.t 72), none⟩]
abbrev o_rotalaw04_do_11 : List IOper := [⟨(some 73), .mv (.t 3), none⟩,
  ⟨(some 74), .mv (.t 13), none⟩,
  ⟨(some 75), .call (.k (.c (.fn fn_rotalaw04_kept_keep [] []))) [(.t 73), (.t 74)], none⟩]
abbrev o_rotalaw04_do_12 : List IOper := [⟨(some 77), .bin .eql (.t 40) (.k (.c (.int .i64 2))), none⟩,
  ⟨(some 76), .mv (.t 77), none⟩]
abbrev o_rotalaw04_do_13 : List IOper := [⟨(some 86), .fa 2 (.t 6), none⟩,
  ⟨(some 87), .ld none (.t 86), none⟩,
  ⟨(some 84), .fa 1 (.t 6), none⟩,
  ⟨(some 85), .ld none (.t 84), none⟩,
  ⟨(some 83), .mv (.t 1), none⟩,
  ⟨(some 80), .fa 2 (.t 6), none⟩,
  ⟨(some 81), .ld none (.t 80), none⟩,
  ⟨(some 79), .mv (.t 11), none⟩,
  ⟨(some 78), .mv (.t 0), none⟩,
  ⟨(some 82), .call (.k (.c (.fn fn_port_Box_Arrive [] []))) [(.t 78), (.t 79), (.t 81)], none⟩,
  ⟨none, .same (some none) (.t 86) (.t 87), none⟩,
  ⟨none, .same (some none) (.t 84) (.t 85), none⟩,
  ⟨(some 88), .call (.k (.c (.fn fn_rotaref04_Box_Arrive [] []))) [(.t 83), (.t 85), (.t 87)], none⟩,
  ⟨(some 89), .bin .eql (.t 82) (.t 88), none⟩,
  ⟨(some 12), .mv (.t 89), none⟩]
abbrev o_rotalaw04_do_14 : List IOper := [⟨(some 91), .bin .eql (.t 40) (.k (.c (.int .i64 3))), none⟩,
  ⟨(some 90), .mv (.t 91), none⟩]
abbrev o_rotalaw04_do_15 : List IOper := [⟨(some 93), .mv (.t 0), none⟩,
  ⟨(some 94), .fa 2 (.t 6), none⟩,
  ⟨(some 95), .ld none (.t 94), none⟩,
  ⟨(some 96), .call (.k (.c (.fn fn_port_Box_Recv [] []))) [(.t 93), (.t 95)], none⟩,
  ⟨(some 92), .mv (.t 96), none⟩,
  ⟨(some 97), .ext (.t 92) 0, none⟩,
  ⟨(some 98), .ext (.t 92) 1, none⟩,
  ⟨(some 17), .mv (.t 97), none⟩,
  ⟨(some 18), .mv (.t 98), none⟩]
abbrev o_rotalaw04_do_16 : List IOper := [⟨(some 100), .mv (.t 1), none⟩,
  ⟨(some 101), .fa 2 (.t 6), none⟩,
  ⟨(some 102), .ld none (.t 101), none⟩,
  ⟨(some 103), .call (.k (.c (.fn fn_rotaref04_Box_Recv [] []))) [(.t 100), (.t 102)], none⟩,
  ⟨(some 99), .mv (.t 103), none⟩,
  ⟨(some 104), .ext (.t 99) 0, none⟩,
  ⟨(some 105), .ext (.t 99) 1, none⟩,
  ⟨(some 19), .mv (.t 104), none⟩,
  ⟨(some 20), .mv (.t 105), none⟩]
abbrev o_rotalaw04_do_17 : List IOper := [⟨(some 106), .mv (.t 17), none⟩,
  ⟨(some 107), .b2s (.t 106), none⟩,
  ⟨(some 108), .mv (.t 19), none⟩,
  ⟨(some 109), .b2s (.t 108), none⟩,
  ⟨(some 110), .bin .eql (.t 107) (.t 109), none⟩,
  ⟨(some 111), .mv (.t 110), none⟩,
  ⟨(some 112), .mv (.t 18), some (111, true)⟩,
  ⟨(some 113), .mv (.t 20), some (111, true)⟩,
  ⟨(some 114), .bin .eql (.t 112) (.t 113), some (111, true)⟩,
  ⟨(some 115), .pick (.t 111) (.t 114) (.k (.c (.bool false))), none⟩,
  ⟨(some 12), .mv (.t 115), none⟩]
abbrev o_rotalaw04_do_18 : List IOper := [⟨(some 116), .mv (.t 3), none⟩,
  ⟨(some 117), .mv (.t 17), none⟩,
  ⟨(some 118), .call (.k (.c (.fn fn_rotalaw04_kept_keep [] []))) [(.t 116), (.t 117)], none⟩]
abbrev o_rotalaw04_do_19 : List IOper := [⟨(some 120), .bin .eql (.t 40) (.k (.c (.int .i64 4))), none⟩,
  ⟨(some 119), .mv (.t 120), none⟩]
abbrev o_rotalaw04_do_20 : List IOper := [⟨(some 123), .mv (.t 1), none⟩,
  ⟨(some 124), .nilck (.t 123), none⟩,
  ⟨(some 125), .fa 6 (.t 124), none⟩,
  ⟨(some 126), .ld none (.t 125), none⟩,
  ⟨(some 127), .len false (.t 126), none⟩,
  ⟨(some 121), .mv (.t 0), none⟩,
  ⟨(some 122), .call (.k (.c (.fn fn_port_Box_Len [] []))) [(.t 121)], none⟩,
  ⟨none, .same (some none) (.t 125) (.t 126), none⟩,
  ⟨(some 128), .bin .eql (.t 122) (.t 127), none⟩,
  ⟨(some 12), .mv (.t 128), none⟩]
abbrev o_rotalaw04_do_21 : List IOper := [⟨(some 130), .bin .eql (.t 40) (.k (.c (.int .i64 5))), none⟩,
  ⟨(some 129), .mv (.t 130), none⟩]
abbrev o_rotalaw04_do_22 : List IOper := [⟨(some 131), .mv (.t 0), none⟩,
  ⟨(some 132), .call (.k (.c (.fn fn_port_Box_Copy [] []))) [(.t 131)], none⟩,
  ⟨(some 21), .mv (.t 132), none⟩]
abbrev o_rotalaw04_do_23 : List IOper := [⟨(some 133), .mv (.t 0), none⟩,
  ⟨(some 134), .mv (.t 11), none⟩,
  ⟨(some 135), .call (.k (.c (.fn fn_port_Box_Send [] []))) [(.t 133), (.t 134)], none⟩]
abbrev o_rotalaw04_do_24 : List IOper := [⟨(some 137), .mv (.t 0), none⟩,
  ⟨(some 138), .call (.k (.c (.fn fn_port_Box_Take [] []))) [(.t 137)], none⟩,
  ⟨(some 136), .mv (.t 138), none⟩,
  ⟨(some 139), .ext (.t 136) 0, none⟩,
  ⟨(some 140), .ext (.t 136) 1, none⟩,
  ⟨(some 22), .mv (.t 139), none⟩,
  ⟨(some 23), .mv (.t 140), none⟩]
abbrev o_rotalaw04_do_25 : List IOper := [⟨(some 142), .mv (.t 0), none⟩,
  ⟨(some 143), .call (.k (.c (.fn fn_port_Box_Recv [] []))) [(.t 142), (.k (.c (.int .i64 0)))], none⟩,
  ⟨(some 141), .mv (.t 143), none⟩,
  ⟨(some 144), .ext (.t 141) 0, none⟩,
  ⟨(some 145), .ext (.t 141) 1, none⟩,
  ⟨(some 24), .mv (.t 144), none⟩,
  ⟨(some 25), .mv (.t 145), none⟩]
abbrev o_rotalaw04_do_26 : List IOper := [⟨(some 146), .mv (.t 22), none⟩,
  ⟨(some 147), .len false (.t 146), none⟩,
  ⟨(some 148), .mv (.k (.c (.int .i64 0))), none⟩]
abbrev o_rotalaw04_do_27 : List IOper := [⟨(some 149), .bin .lss (.t 148) (.t 147), none⟩]
abbrev o_rotalaw04_do_28 : List IOper := [⟨(some 150), .mv (.t 148), none⟩,
  ⟨(some 26), .mv (.t 150), none⟩]
abbrev o_rotalaw04_do_29 : List IOper := [⟨(some 151), .mv (.t 22), none⟩,
  ⟨(some 152), .mv (.t 26), none⟩,
  ⟨(some 153), .mv (.t 22), none⟩,
  ⟨(some 154), .mv (.t 26), none⟩,
  ⟨(some 155), .iaS 1 (.t 153) (.t 154), none⟩,
  ⟨(some 156), .ld none (.t 155), none⟩,
  ⟨(some 157), .bin .add (.t 156) (.k (.c (.int .u8 3))), none⟩,
  ⟨(some 158), .iaS 1 (.t 151) (.t 152), none⟩,
  ⟨none, .st 1 (.t 158) (.t 157), none⟩]
abbrev o_rotalaw04_do_30 : List IOper := [⟨(some 159), .bin .add (.t 148) (.k (.c (.int .i64 1))), none⟩,
  ⟨(some 148), .mv (.t 159), none⟩]
def b_rotalaw04_do_31 : IC := (.seq (.ops o_rotalaw04_do_27) (.seq (.cond (.t 149) .skip (.exit 1)) (.seq (.block 2 (.seq (.ops o_rotalaw04_do_28) (.ops o_rotalaw04_do_29))) (.ops o_rotalaw04_do_30))))
abbrev o_rotalaw04_do_32 : List IOper := [⟨(some 160), .mv (.t 24), none⟩,
  ⟨(some 161), .len false (.t 160), none⟩,
  ⟨(some 162), .mv (.k (.c (.int .i64 0))), none⟩]
abbrev o_rotalaw04_do_33 : List IOper := [⟨(some 163), .bin .lss (.t 162) (.t 161), none⟩]
abbrev o_rotalaw04_do_34 : List IOper := [⟨(some 164), .mv (.t 162), none⟩,
  ⟨(some 27), .mv (.t 164), none⟩]
abbrev o_rotalaw04_do_35 : List IOper := [⟨(some 165), .mv (.t 24), none⟩,
  ⟨(some 166), .mv (.t 27), none⟩,
  ⟨(some 167), .mv (.t 24), none⟩,
  ⟨(some 168), .mv (.t 27), none⟩,
  ⟨(some 169), .iaS 1 (.t 167) (.t 168), none⟩,
  ⟨(some 170), .ld none (.t 169), none⟩,
  ⟨(some 171), .bin .add (.t 170) (.k (.c (.int .u8 3))), none⟩,
  ⟨(some 172), .iaS 1 (.t 165) (.t 166), none⟩,
  ⟨none, .st 1 (.t 172) (.t 171), none⟩]
abbrev o_rotalaw04_do_36 : List IOper := [⟨(some 173), .bin .add (.t 162) (.k (.c (.int .i64 1))), none⟩,
  ⟨(some 162), .mv (.t 173), none⟩]
def b_rotalaw04_do_37 : IC := (.seq (.ops o_rotalaw04_do_33) (.seq (.cond (.t 163) .skip (.exit 3)) (.seq (.block 4 (.seq (.ops o_rotalaw04_do_34) (.ops o_rotalaw04_do_35))) (.ops o_rotalaw04_do_36))))
abbrev o_rotalaw04_do_38 : List IOper := [⟨(some 174), .mv (.t 0), none⟩,
  ⟨(some 175), .mv (.t 11), none⟩,
  ⟨(some 176), .call (.k (.c (.fn fn_port_Box_Arrive [] []))) [(.t 174), (.t 175), (.k (.c (.int .i64 5)))], none⟩]
abbrev o_rotalaw04_do_39 : List IOper := [⟨(some 177), .mv (.t 0), none⟩,
  ⟨(some 178), .mv (.t 11), none⟩,
  ⟨(some 179), .call (.k (.c (.fn fn_port_Box_Arrive [] []))) [(.t 177), (.t 178), (.k (.c (.int .i64 6)))], none⟩]
abbrev o_rotalaw04_do_40 : List IOper := [⟨(some 180), .mv (.t 21), none⟩,
  ⟨(some 0), .mv (.t 180), none⟩]
abbrev o_rotalaw04_do_41 : List IOper := [⟨(some 181), .mv (.t 12), none⟩,
  ⟨(some 182), .mv (.t 181), none⟩,
  ⟨(some 183), .mv (.t 10), some (182, true)⟩,
  ⟨(some 184), .b2s (.t 183), some (182, true)⟩,
  ⟨(some 185), .fa 1 (.t 6), some (182, true)⟩,
  ⟨(some 186), .ld none (.t 185), some (182, true)⟩,
  ⟨(some 187), .b2s (.t 186), some (182, true)⟩,
  ⟨(some 188), .bin .add (.t 187) (.k (.c (.str ⟨#[7]⟩))), some (182, true)⟩,
  ⟨(some 189), .bin .eql (.t 184) (.t 188), some (182, true)⟩,
  ⟨(some 190), .pick (.t 182) (.t 189) (.k (.c (.bool false))), none⟩,
  ⟨(some 12), .mv (.t 190), none⟩]
abbrev o_rotalaw04_do_42 : List IOper := [⟨(some 191), .mv (.t 10), none⟩,
  ⟨(some 192), .len false (.t 191), none⟩,
  ⟨(some 193), .mv (.k (.c (.int .i64 0))), none⟩]
abbrev o_rotalaw04_do_43 : List IOper := [⟨(some 194), .bin .lss (.t 193) (.t 192), none⟩]
abbrev o_rotalaw04_do_44 : List IOper := [⟨(some 195), .mv (.t 193), none⟩,
  ⟨(some 28), .mv (.t 195), none⟩]
abbrev o_rotalaw04_do_45 : List IOper := [⟨(some 196), .mv (.t 10), none⟩,
  ⟨(some 197), .mv (.t 28), none⟩,
  ⟨(some 198), .iaS 1 (.t 196) (.t 197), none⟩,
  ⟨none, .st 1 (.t 198) (.k (.c (.int .u8 99))), none⟩]
abbrev o_rotalaw04_do_46 : List IOper := [⟨(some 199), .bin .add (.t 193) (.k (.c (.int .i64 1))), none⟩,
  ⟨(some 193), .mv (.t 199), none⟩]
def b_rotalaw04_do_47 : IC := (.seq (.ops o_rotalaw04_do_43) (.seq (.cond (.t 194) .skip (.exit 5)) (.seq (.block 6 (.seq (.ops o_rotalaw04_do_44) (.ops o_rotalaw04_do_45))) (.ops o_rotalaw04_do_46))))
abbrev o_rotalaw04_do_48 : List IOper := [⟨(some 200), .mv (.t 0), none⟩,
  ⟨(some 201), .mv (.t 12), none⟩,
  ⟨(some 8), .mv (.t 200), none⟩,
  ⟨(some 9), .mv (.t 201), none⟩]
def c_rotalaw04_do : IC := (.seq (.ops o_rotalaw04_do_0) (.seq (.ops o_rotalaw04_do_1) (.seq (.ops o_rotalaw04_do_2) (.seq (.ops o_rotalaw04_do_3) (.seq (.seq (.ops o_rotalaw04_do_4) (.block 0 (.seq (.ops o_rotalaw04_do_5) (.cond (.t 41) (.ops o_rotalaw04_do_6) (.seq (.ops o_rotalaw04_do_7) (.cond (.t 51) (.seq (.ops o_rotalaw04_do_8) (.seq (.ops o_rotalaw04_do_9) (.seq (.ops o_rotalaw04_do_10) (.ops o_rotalaw04_do_11)))) (.seq (.ops o_rotalaw04_do_12) (.cond (.t 76) (.ops o_rotalaw04_do_13) (.seq (.ops o_rotalaw04_do_14) (.cond (.t 90) (.seq (.ops o_rotalaw04_do_15) (.seq (.ops o_rotalaw04_do_16) (.seq (.ops o_rotalaw04_do_17) (.ops o_rotalaw04_do_18)))) (.seq (.ops o_rotalaw04_do_19) (.cond (.t 119) (.ops o_rotalaw04_do_20) (.seq (.ops o_rotalaw04_do_21) (.cond (.t 129) (.seq (.ops o_rotalaw04_do_22) (.seq (.ops o_rotalaw04_do_23) (.seq (.ops o_rotalaw04_do_24) (.seq (.ops o_rotalaw04_do_25) (.seq (.seq (.ops o_rotalaw04_do_26) (.block 1 (.loop b_rotalaw04_do_31))) (.seq (.seq (.ops o_rotalaw04_do_32) (.block 3 (.loop b_rotalaw04_do_37))) (.seq (.ops o_rotalaw04_do_38) (.seq (.ops o_rotalaw04_do_39) (.ops o_rotalaw04_do_40))))))))) .skip)))))))))))))) (.seq (.ops o_rotalaw04_do_41) (.seq (.seq (.ops o_rotalaw04_do_42) (.block 5 (.loop b_rotalaw04_do_47))) (.seq (.ops o_rotalaw04_do_48) .ret))))))))
def i_rotalaw04_do : IFn := ⟨202, c_rotalaw04_do, [(8, none), (9, none)]⟩

-- F 22 (*rota/rotalaw04.kept).still: bads 0, calls []
abbrev o_rotalaw04_kept_still_0 : List IOper := [⟨(some 2), .mv (.k (.c (.bool false))), none⟩]
abbrev o_rotalaw04_kept_still_1 : List IOper := [⟨(some 4), .mv (.t 0), none⟩,
  ⟨(some 5), .nilck (.t 4), none⟩,
  ⟨(some 6), .fa 0 (.t 5), none⟩,
  ⟨(some 7), .ld none (.t 6), none⟩,
  ⟨(some 8), .len false (.t 7), none⟩,
  ⟨(some 9), .mv (.k (.c (.int .i64 0))), none⟩]
abbrev o_rotalaw04_kept_still_2 : List IOper := [⟨(some 10), .bin .lss (.t 9) (.t 8), none⟩]
abbrev o_rotalaw04_kept_still_3 : List IOper := [⟨(some 11), .mv (.t 9), none⟩,
  ⟨(some 3), .mv (.t 11), none⟩]
abbrev o_rotalaw04_kept_still_4 : List IOper := [⟨(some 12), .mv (.t 0), none⟩,
  ⟨(some 13), .nilck (.t 12), none⟩,
  ⟨(some 14), .fa 0 (.t 13), none⟩,
  ⟨(some 15), .ld none (.t 14), none⟩,
  ⟨(some 16), .mv (.t 3), none⟩,
  ⟨(some 17), .iaS 1 (.t 15) (.t 16), none⟩,
  ⟨(some 18), .ld none (.t 17), none⟩,
  ⟨(some 19), .b2s (.t 18), none⟩,
  ⟨(some 20), .mv (.t 0), none⟩,
  ⟨(some 21), .nilck (.t 20), none⟩,
  ⟨(some 22), .fa 1 (.t 21), none⟩,
  ⟨(some 23), .ld none (.t 22), none⟩,
  ⟨(some 24), .mv (.t 3), none⟩,
  ⟨(some 25), .iaS 1 (.t 23) (.t 24), none⟩,
  ⟨(some 26), .ld none (.t 25), none⟩,
  ⟨(some 27), .b2s (.t 26), none⟩,
  ⟨(some 28), .bin .neq (.t 19) (.t 27), none⟩]
abbrev o_rotalaw04_kept_still_5 : List IOper := [⟨(some 2), .mv (.k (.c (.bool false))), none⟩]
abbrev o_rotalaw04_kept_still_6 : List IOper := [⟨(some 29), .bin .add (.t 9) (.k (.c (.int .i64 1))), none⟩,
  ⟨(some 9), .mv (.t 29), none⟩]
def b_rotalaw04_kept_still_7 : IC := (.seq (.ops o_rotalaw04_kept_still_2) (.seq (.cond (.t 10) .skip (.exit 0)) (.seq (.block 1 (.seq (.ops o_rotalaw04_kept_still_3) (.seq (.ops o_rotalaw04_kept_still_4) (.cond (.t 28) (.seq (.ops o_rotalaw04_kept_still_5) .ret) .skip)))) (.ops o_rotalaw04_kept_still_6))))
abbrev o_rotalaw04_kept_still_8 : List IOper := [⟨(some 2), .mv (.k (.c (.bool true))), none⟩]
def c_rotalaw04_kept_still : IC := (.seq (.ops o_rotalaw04_kept_still_0) (.seq (.seq (.ops o_rotalaw04_kept_still_1) (.block 0 (.loop b_rotalaw04_kept_still_7))) (.seq (.ops o_rotalaw04_kept_still_8) .ret)))
def i_rotalaw04_kept_still : IFn := ⟨30, c_rotalaw04_kept_still, [(2, none)]⟩

-- F 23 (*rota/port.Box).Copy: bads 0, calls [35, 36]
abbrev o_port_Box_Copy_0 : List IOper := [⟨(some 2), .mv (.k (.c (.ptr none))), none⟩]
abbrev o_port_Box_Copy_1 : List IOper := [⟨(some 5), .mv (.t 0), none⟩,
  ⟨(some 6), .eq .ptr false (.t 5) (.k (.c (.ptr none))), none⟩,
  ⟨(some 7), .mv (.t 6), none⟩,
  ⟨(some 8), .mv (.t 0), some (7, false)⟩,
  ⟨(some 9), .nilck (.t 8), some (7, false)⟩,
  ⟨(some 10), .fa 6 (.t 9), some (7, false)⟩,
  ⟨(some 11), .ld none (.t 10), some (7, false)⟩,
  ⟨(some 12), .eq .ptr false (.t 11) (.k (.c (.ptr none))), some (7, false)⟩,
  ⟨(some 13), .pick (.t 7) (.k (.c (.bool true))) (.t 12), none⟩]
abbrev o_port_Box_Copy_2 : List IOper := [⟨(some 2), .mv (.k (.c (.ptr none))), none⟩]
abbrev o_port_Box_Copy_3 : List IOper := [⟨(some 14), .mv (.t 0), none⟩,
  ⟨(some 15), .nilck (.t 14), none⟩,
  ⟨(some 16), .ld (some 10) (.t 15), none⟩,
  ⟨(some 3), .new 64 (.agg (List.replicate 6 (.int .i64 0) ++ [(.ptr none)] ++ [(.sl none 0 0 false)] ++ [(.int .i64 0)] ++ [(.bool false)])), none⟩,
  ⟨none, .st 10 (.t 3) (.t 16), none⟩]
abbrev o_port_Box_Copy_4 : List IOper := [⟨(some 17), .fa 7 (.t 3), none⟩,
  ⟨none, .st 1 (.t 17) (.k (.c (.sl none 0 0 false))), none⟩]
abbrev o_port_Box_Copy_5 : List IOper := [⟨(some 18), .mv (.t 0), none⟩,
  ⟨(some 19), .call (.k (.c (.fn fn_port_Box_all [] []))) [(.t 18)], none⟩]
abbrev o_port_Box_Copy_6 : List IOper := [⟨(some 4), .mv (.t 20), none⟩]
abbrev o_port_Box_Copy_7 : List IOper := [⟨(some 23), .mv (.t 4), none⟩,
  ⟨(some 21), .fa 7 (.t 3), none⟩,
  ⟨(some 22), .ld none (.t 21), none⟩,
  ⟨(some 24), .call (.k (.c (.fn fn_slices_Clone_byte_byte [] []))) [(.t 23)], none⟩,
  ⟨none, .same (some none) (.t 21) (.t 22), none⟩,
  ⟨(some 25), .bsl 22 1 [(.sl none 0 0 false)] [(0, 1, (.t 24))], none⟩,
  ⟨(some 26), .app 22 1 24 (.t 22) (.t 25), none⟩,
  ⟨(some 27), .fa 7 (.t 3), none⟩,
  ⟨none, .st 1 (.t 27) (.t 26), none⟩]
def a_port_Box_Copy_8 : IC := (.ops o_port_Box_Copy_6)
def b_port_Box_Copy_9 : IC := (.block 1 (.ops o_port_Box_Copy_7))
abbrev o_port_Box_Copy_10 : List IOper := [⟨(some 2), .mv (.t 3), none⟩]
def c_port_Box_Copy : IC := (.seq (.ops o_port_Box_Copy_0) (.seq (.seq (.ops o_port_Box_Copy_1) (.cond (.t 13) (.seq (.ops o_port_Box_Copy_2) .ret) .skip)) (.seq (.ops o_port_Box_Copy_3) (.seq (.ops o_port_Box_Copy_4) (.seq (.seq (.ops o_port_Box_Copy_5) (.block 0 (.rangeF (.t 19) [20] a_port_Box_Copy_8 b_port_Box_Copy_9))) (.seq (.ops o_port_Box_Copy_10) .ret))))))
def i_port_Box_Copy : IFn := ⟨28, c_port_Box_Copy, [(2, none)]⟩

-- F 24 rota/rotalaw04.ask: bads 0, calls [15, 13, 18, 17, 14]
abbrev o_rotalaw04_ask_0 : List IOper := [⟨(some 3), .box 56 (.t 1), none⟩,
  ⟨(some 4), .mv (.k (.c (.str ⟨#[]⟩))), none⟩,
  ⟨(some 5), .mv (.k (.c (.int .i64 0))), none⟩]
abbrev o_rotalaw04_ask_1 : List IOper := [⟨(some 10), .fa 0 (.t 3), none⟩,
  ⟨(some 11), .ld none (.t 10), none⟩]
abbrev o_rotalaw04_ask_2 : List IOper := [⟨(some 13), .bin .eql (.t 11) (.k (.c (.int .i64 0))), none⟩,
  ⟨(some 12), .mv (.t 13), none⟩]
abbrev o_rotalaw04_ask_3 : List IOper := [⟨(some 14), .mv (.t 0), none⟩,
  ⟨(some 15), .fa 1 (.t 3), none⟩,
  ⟨(some 16), .ld none (.t 15), none⟩,
  ⟨(some 17), .call (.k (.c (.fn fn_port_Box_Send [] []))) [(.t 14), (.t 16)], none⟩,
  ⟨(some 4), .mv (.k (.c (.str ⟨#[]⟩))), none⟩,
  ⟨(some 5), .mv (.t 17), none⟩]
abbrev o_rotalaw04_ask_4 : List IOper := [⟨(some 19), .bin .eql (.t 11) (.k (.c (.int .i64 1))), none⟩,
  ⟨(some 18), .mv (.t 19), none⟩]
abbrev o_rotalaw04_ask_5 : List IOper := [⟨(some 21), .mv (.t 0), none⟩,
  ⟨(some 22), .call (.k (.c (.fn fn_port_Box_Take [] []))) [(.t 21)], none⟩,
  ⟨(some 20), .mv (.t 22), none⟩,
  ⟨(some 23), .ext (.t 20) 0, none⟩,
  ⟨(some 24), .ext (.t 20) 1, none⟩,
  ⟨(some 6), .mv (.t 23), none⟩,
  ⟨(some 7), .mv (.t 24), none⟩]
abbrev o_rotalaw04_ask_6 : List IOper := [⟨(some 25), .mv (.t 7), none⟩]
abbrev o_rotalaw04_ask_7 : List IOper := [⟨(some 26), .mv (.t 6), none⟩,
  ⟨(some 27), .b2s (.t 26), none⟩,
  ⟨(some 4), .mv (.t 27), none⟩,
  ⟨(some 5), .mv (.k (.c (.int .i64 1))), none⟩]
abbrev o_rotalaw04_ask_8 : List IOper := [⟨(some 29), .bin .eql (.t 11) (.k (.c (.int .i64 2))), none⟩,
  ⟨(some 28), .mv (.t 29), none⟩]
abbrev o_rotalaw04_ask_9 : List IOper := [⟨(some 30), .mv (.t 0), none⟩,
  ⟨(some 31), .fa 1 (.t 3), none⟩,
  ⟨(some 32), .ld none (.t 31), none⟩,
  ⟨(some 33), .fa 2 (.t 3), none⟩,
  ⟨(some 34), .ld none (.t 33), none⟩,
  ⟨(some 35), .call (.k (.c (.fn fn_port_Box_Arrive [] []))) [(.t 30), (.t 32), (.t 34)], none⟩,
  ⟨(some 4), .mv (.k (.c (.str ⟨#[]⟩))), none⟩,
  ⟨(some 5), .mv (.t 35), none⟩]
abbrev o_rotalaw04_ask_10 : List IOper := [⟨(some 37), .bin .eql (.t 11) (.k (.c (.int .i64 3))), none⟩,
  ⟨(some 36), .mv (.t 37), none⟩]
abbrev o_rotalaw04_ask_11 : List IOper := [⟨(some 39), .mv (.t 0), none⟩,
  ⟨(some 40), .fa 2 (.t 3), none⟩,
  ⟨(some 41), .ld none (.t 40), none⟩,
  ⟨(some 42), .call (.k (.c (.fn fn_port_Box_Recv [] []))) [(.t 39), (.t 41)], none⟩,
  ⟨(some 38), .mv (.t 42), none⟩,
  ⟨(some 43), .ext (.t 38) 0, none⟩,
  ⟨(some 44), .ext (.t 38) 1, none⟩,
  ⟨(some 8), .mv (.t 43), none⟩,
  ⟨(some 9), .mv (.t 44), none⟩]
abbrev o_rotalaw04_ask_12 : List IOper := [⟨(some 45), .mv (.t 8), none⟩,
  ⟨(some 46), .b2s (.t 45), none⟩,
  ⟨(some 47), .mv (.t 9), none⟩,
  ⟨(some 4), .mv (.t 46), none⟩,
  ⟨(some 5), .mv (.t 47), none⟩]
abbrev o_rotalaw04_ask_13 : List IOper := [⟨(some 48), .mv (.t 0), none⟩,
  ⟨(some 49), .call (.k (.c (.fn fn_port_Box_Len [] []))) [(.t 48)], none⟩,
  ⟨(some 4), .mv (.k (.c (.str ⟨#[]⟩))), none⟩,
  ⟨(some 5), .mv (.t 49), none⟩]
def c_rotalaw04_ask : IC := (.seq (.ops o_rotalaw04_ask_0) (.seq (.seq (.ops o_rotalaw04_ask_1) (.block 0 (.seq (.ops o_rotalaw04_ask_2) (.cond (.t 12) (.seq (.ops o_rotalaw04_ask_3) .ret) (.seq (.ops o_rotalaw04_ask_4) (.cond (.t 18) (.seq (.ops o_rotalaw04_ask_5) (.seq (.ops o_rotalaw04_ask_6) (.cond (.t 25) (.seq (.ops o_rotalaw04_ask_7) .ret) .skip))) (.seq (.ops o_rotalaw04_ask_8) (.cond (.t 28) (.seq (.ops o_rotalaw04_ask_9) .ret) (.seq (.ops o_rotalaw04_ask_10) (.cond (.t 36) (.seq (.ops o_rotalaw04_ask_11) (.seq (.ops o_rotalaw04_ask_12) .ret)) .skip)))))))))) (.seq (.ops o_rotalaw04_ask_13) .ret)))
def i_rotalaw04_ask : IFn := ⟨50, c_rotalaw04_ask, [(4, none), (5, none)]⟩

-- F 25 rota/rotalaw04.same: bads 0, calls [24, 24]
abbrev o_rotalaw04_same_0 : List IOper := [⟨(some 4), .mv (.k (.c (.bool false))), none⟩]
abbrev o_rotalaw04_same_1 : List IOper := [⟨(some 5), .mv (.k (.c (.int .i64 0))), none⟩]
abbrev o_rotalaw04_same_2 : List IOper := [⟨(some 10), .mv (.t 5), none⟩,
  ⟨(some 11), .bin .lss (.t 10) (.k (.c (.int .i64 20))), none⟩]
abbrev o_rotalaw04_same_3 : List IOper := [⟨(some 15), .mv (.t 0), none⟩,
  ⟨(some 16), .mv (.t 5), none⟩,
  ⟨(some 17), .bin .rem (.t 16) (.k (.c (.int .i64 2))), none⟩,
  ⟨(some 18), .bin .mul (.t 17) (.k (.c (.int .i64 2))), none⟩,
  ⟨(some 19), .bin .add (.k (.c (.int .i64 1))) (.t 18), none⟩,
  ⟨(some 20), .build [(.int .i64 0), (.sl none 0 0 false), (.int .i64 0)] [(0, 1, (.t 19))], none⟩,
  ⟨(some 21), .call (.k (.c (.fn fn_rotalaw04_ask [] []))) [(.t 15), (.t 20)], none⟩,
  ⟨(some 14), .mv (.t 21), none⟩,
  ⟨(some 22), .ext (.t 14) 0, none⟩,
  ⟨(some 23), .ext (.t 14) 1, none⟩,
  ⟨(some 6), .mv (.t 22), none⟩,
  ⟨(some 7), .mv (.t 23), none⟩]
abbrev o_rotalaw04_same_4 : List IOper := [⟨(some 25), .mv (.t 1), none⟩,
  ⟨(some 26), .mv (.t 5), none⟩,
  ⟨(some 27), .bin .rem (.t 26) (.k (.c (.int .i64 2))), none⟩,
  ⟨(some 28), .bin .mul (.t 27) (.k (.c (.int .i64 2))), none⟩,
  ⟨(some 29), .bin .add (.k (.c (.int .i64 1))) (.t 28), none⟩,
  ⟨(some 30), .build [(.int .i64 0), (.sl none 0 0 false), (.int .i64 0)] [(0, 1, (.t 29))], none⟩,
  ⟨(some 31), .call (.k (.c (.fn fn_rotalaw04_ask [] []))) [(.t 25), (.t 30)], none⟩,
  ⟨(some 24), .mv (.t 31), none⟩,
  ⟨(some 32), .ext (.t 24) 0, none⟩,
  ⟨(some 33), .ext (.t 24) 1, none⟩,
  ⟨(some 8), .mv (.t 32), none⟩,
  ⟨(some 9), .mv (.t 33), none⟩]
abbrev o_rotalaw04_same_5 : List IOper := [⟨(some 34), .mv (.t 6), none⟩,
  ⟨(some 35), .mv (.t 8), none⟩,
  ⟨(some 36), .bin .neq (.t 34) (.t 35), none⟩,
  ⟨(some 37), .mv (.t 36), none⟩,
  ⟨(some 38), .mv (.t 7), some (37, false)⟩,
  ⟨(some 39), .mv (.t 9), some (37, false)⟩,
  ⟨(some 40), .bin .neq (.t 38) (.t 39), some (37, false)⟩,
  ⟨(some 41), .pick (.t 37) (.k (.c (.bool true))) (.t 40), none⟩]
abbrev o_rotalaw04_same_6 : List IOper := [⟨(some 4), .mv (.k (.c (.bool false))), none⟩]
abbrev o_rotalaw04_same_7 : List IOper := [⟨(some 12), .mv (.t 5), none⟩,
  ⟨(some 13), .bin .add (.t 12) (.k (.c (.int .i64 1))), none⟩,
  ⟨(some 5), .mv (.t 13), none⟩]
def b_rotalaw04_same_8 : IC := (.seq (.seq (.ops o_rotalaw04_same_2) (.cond (.t 11) .skip (.exit 0))) (.seq (.block 1 (.seq (.ops o_rotalaw04_same_3) (.seq (.ops o_rotalaw04_same_4) (.seq (.ops o_rotalaw04_same_5) (.cond (.t 41) (.seq (.ops o_rotalaw04_same_6) .ret) .skip))))) (.ops o_rotalaw04_same_7)))
abbrev o_rotalaw04_same_9 : List IOper := [⟨(some 4), .mv (.k (.c (.bool true))), none⟩]
def c_rotalaw04_same : IC := (.seq (.ops o_rotalaw04_same_0) (.seq (.seq (.ops o_rotalaw04_same_1) (.block 0 (.loop b_rotalaw04_same_8))) (.seq (.ops o_rotalaw04_same_9) .ret)))
def i_rotalaw04_same : IFn := ⟨42, c_rotalaw04_same, [(4, none)]⟩

-- F 26 rota/port.kinds: bads 0, calls [37, 38, 40, 41, 42, 43]
abbrev o_port_kinds_0 : List IOper := [⟨(some 0), .mv (.k (.c (.map none))), none⟩]
abbrev o_port_kinds_1 : List IOper := [⟨(some 1), .mkmap none, none⟩,
  ⟨(some 2), .build [.nilFn, .nilFn, .nilFn] [(0, 1, (.k (.c (.fn fn_port_kinds_1 [] [])))), (1, 1, (.k (.c (.fn fn_port_kinds_2 [] [])))), (2, 1, (.k (.c (.fn fn_port_kinds_3 [] []))))], none⟩,
  ⟨(some 3), .box 78 (.t 2), none⟩,
  ⟨none, .ins .int (.t 1) (.k (.c (.int .i64 2))) (.t 3), none⟩,
  ⟨(some 4), .build [.nilFn, .nilFn, .nilFn] [(0, 1, (.k (.c (.fn fn_port_kinds_4 [] [])))), (1, 1, (.k (.c (.fn fn_port_kinds_5 [] [])))), (2, 1, (.k (.c (.fn fn_port_kinds_6 [] []))))], none⟩,
  ⟨(some 5), .box 78 (.t 4), none⟩,
  ⟨none, .ins .int (.t 1) (.k (.c (.int .i64 1))) (.t 5), none⟩,
  ⟨(some 6), .mv (.t 1), none⟩,
  ⟨(some 0), .mv (.t 6), none⟩]
def c_port_kinds : IC := (.seq (.ops o_port_kinds_0) (.seq (.ops o_port_kinds_1) .ret))
def i_port_kinds : IFn := ⟨7, c_port_kinds, [(0, none)]⟩

-- F 27 (*rota/port.Box).is: bads 0, calls []
abbrev o_port_Box_is_0 : List IOper := [⟨(some 4), .mv (.k (.c (.int .i64 0))), none⟩]
abbrev o_port_Box_is_1 : List IOper := [⟨(some 5), .mv (.t 0), none⟩,
  ⟨(some 6), .eq .ptr false (.t 5) (.k (.c (.ptr none))), none⟩,
  ⟨(some 7), .mv (.t 6), none⟩,
  ⟨(some 8), .mv (.t 0), some (7, false)⟩,
  ⟨(some 9), .nilck (.t 8), some (7, false)⟩,
  ⟨(some 10), .fa 6 (.t 9), some (7, false)⟩,
  ⟨(some 11), .ld none (.t 10), some (7, false)⟩,
  ⟨(some 12), .eq .ptr false (.t 11) (.k (.c (.ptr none))), some (7, false)⟩,
  ⟨(some 13), .pick (.t 7) (.k (.c (.bool true))) (.t 12), none⟩]
abbrev o_port_Box_is_2 : List IOper := [⟨(some 4), .mv (.k (.c (.int .i64 1))), none⟩]
abbrev o_port_Box_is_3 : List IOper := [⟨(some 14), .mv (.t 0), none⟩,
  ⟨(some 15), .nilck (.t 14), none⟩,
  ⟨(some 16), .fa 0 (.t 15), none⟩,
  ⟨(some 17), .fa 2 (.t 16), none⟩,
  ⟨(some 18), .ld none (.t 17), none⟩,
  ⟨(some 19), .mv (.t 1), none⟩,
  ⟨(some 20), .bin .neq (.t 18) (.t 19), none⟩]
abbrev o_port_Box_is_4 : List IOper := [⟨(some 4), .mv (.k (.c (.int .i64 40))), none⟩]
abbrev o_port_Box_is_5 : List IOper := [⟨(some 4), .mv (.k (.c (.int .i64 0))), none⟩]
def c_port_Box_is : IC := (.seq (.ops o_port_Box_is_0) (.seq (.seq (.ops o_port_Box_is_1) (.cond (.t 13) (.seq (.ops o_port_Box_is_2) .ret) .skip)) (.seq (.seq (.ops o_port_Box_is_3) (.cond (.t 20) (.seq (.ops o_port_Box_is_4) .ret) .skip)) (.seq (.ops o_port_Box_is_5) .ret))))
def i_port_Box_is : IFn := ⟨21, c_port_Box_is, [(4, none)]⟩

-- F 28 rota/rotaref02.Alone: bads 0, calls []
abbrev o_rotaref02_Alone_0 : List IOper := [⟨(some 1), .box 30 (.t 0), none⟩,
  ⟨(some 2), .mv (.k (.c (.bool false))), none⟩]
abbrev o_rotaref02_Alone_1 : List IOper := [⟨(some 3), .fa 1 (.t 1), none⟩,
  ⟨(some 4), .ld none (.t 3), none⟩,
  ⟨(some 5), .bin .lss (.t 4) (.k (.c (.int .i64 1))), none⟩,
  ⟨(some 6), .mv (.t 5), none⟩,
  ⟨(some 7), .fa 1 (.t 1), some (6, false)⟩,
  ⟨(some 8), .ld none (.t 7), some (6, false)⟩,
  ⟨(some 9), .bin .gtr (.t 8) (.k (.c (.int .i64 2))), some (6, false)⟩,
  ⟨(some 10), .pick (.t 6) (.k (.c (.bool true))) (.t 9), none⟩,
  ⟨(some 11), .mv (.t 10), none⟩,
  ⟨(some 12), .fa 2 (.t 1), some (11, false)⟩,
  ⟨(some 13), .ld none (.t 12), some (11, false)⟩,
  ⟨(some 14), .bin .lss (.t 13) (.k (.c (.int .i64 1))), some (11, false)⟩,
  ⟨(some 15), .pick (.t 11) (.k (.c (.bool true))) (.t 14), none⟩,
  ⟨(some 16), .mv (.t 15), none⟩,
  ⟨(some 17), .fa 2 (.t 1), some (16, false)⟩,
  ⟨(some 18), .ld none (.t 17), some (16, false)⟩,
  ⟨(some 19), .bin .gtr (.t 18) (.k (.c (.int .i64 2))), some (16, false)⟩,
  ⟨(some 20), .pick (.t 16) (.k (.c (.bool true))) (.t 19), none⟩,
  ⟨(some 21), .mv (.t 20), none⟩,
  ⟨(some 22), .fa 3 (.t 1), some (21, false)⟩,
  ⟨(some 23), .ld none (.t 22), some (21, false)⟩,
  ⟨(some 24), .bin .lss (.t 23) (.k (.c (.int .i64 1))), some (21, false)⟩,
  ⟨(some 25), .pick (.t 21) (.k (.c (.bool true))) (.t 24), none⟩,
  ⟨(some 26), .mv (.t 25), none⟩,
  ⟨(some 27), .fa 3 (.t 1), some (26, false)⟩,
  ⟨(some 28), .ld none (.t 27), some (26, false)⟩,
  ⟨(some 29), .bin .gtr (.t 28) (.k (.c (.int .i64 32))), some (26, false)⟩,
  ⟨(some 30), .pick (.t 26) (.k (.c (.bool true))) (.t 29), none⟩]
abbrev o_rotaref02_Alone_2 : List IOper := [⟨(some 2), .mv (.k (.c (.bool false))), none⟩]
abbrev o_rotaref02_Alone_3 : List IOper := [⟨(some 31), .fa 1 (.t 1), none⟩,
  ⟨(some 32), .ld none (.t 31), none⟩,
  ⟨(some 33), .bin .eql (.t 32) (.k (.c (.int .i64 2))), none⟩]
abbrev o_rotaref02_Alone_4 : List IOper := [⟨(some 34), .fa 4 (.t 1), none⟩,
  ⟨(some 35), .ld none (.t 34), none⟩,
  ⟨(some 36), .bin .geq (.t 35) (.k (.c (.int .i64 1))), none⟩,
  ⟨(some 37), .mv (.t 36), none⟩,
  ⟨(some 38), .fa 4 (.t 1), some (37, true)⟩,
  ⟨(some 39), .ld none (.t 38), some (37, true)⟩,
  ⟨(some 40), .bin .leq (.t 39) (.k (.c (.int .i64 8))), some (37, true)⟩,
  ⟨(some 41), .pick (.t 37) (.t 40) (.k (.c (.bool false))), none⟩,
  ⟨(some 42), .mv (.t 41), none⟩,
  ⟨(some 43), .fa 5 (.t 1), some (42, true)⟩,
  ⟨(some 44), .ld none (.t 43), some (42, true)⟩,
  ⟨(some 45), .bin .eql (.t 44) (.k (.c (.int .i64 0))), some (42, true)⟩,
  ⟨(some 46), .pick (.t 42) (.t 45) (.k (.c (.bool false))), none⟩,
  ⟨(some 2), .mv (.t 46), none⟩]
abbrev o_rotaref02_Alone_5 : List IOper := [⟨(some 47), .fa 2 (.t 1), none⟩,
  ⟨(some 48), .ld none (.t 47), none⟩,
  ⟨(some 49), .bin .eql (.t 48) (.k (.c (.int .i64 2))), none⟩]
abbrev o_rotaref02_Alone_6 : List IOper := [⟨(some 50), .fa 4 (.t 1), none⟩,
  ⟨(some 51), .ld none (.t 50), none⟩,
  ⟨(some 52), .bin .eql (.t 51) (.k (.c (.int .i64 0))), none⟩,
  ⟨(some 53), .mv (.t 52), none⟩,
  ⟨(some 54), .fa 5 (.t 1), some (53, true)⟩,
  ⟨(some 55), .ld none (.t 54), some (53, true)⟩,
  ⟨(some 56), .bin .geq (.t 55) (.k (.c (.int .i64 1))), some (53, true)⟩,
  ⟨(some 57), .pick (.t 53) (.t 56) (.k (.c (.bool false))), none⟩,
  ⟨(some 58), .mv (.t 57), none⟩,
  ⟨(some 59), .fa 5 (.t 1), some (58, true)⟩,
  ⟨(some 60), .ld none (.t 59), some (58, true)⟩,
  ⟨(some 61), .bin .leq (.t 60) (.k (.c (.int .i64 65535))), some (58, true)⟩,
  ⟨(some 62), .pick (.t 58) (.t 61) (.k (.c (.bool false))), none⟩,
  ⟨(some 2), .mv (.t 62), none⟩]
abbrev o_rotaref02_Alone_7 : List IOper := [⟨(some 63), .fa 4 (.t 1), none⟩,
  ⟨(some 64), .ld none (.t 63), none⟩,
  ⟨(some 65), .bin .eql (.t 64) (.k (.c (.int .i64 0))), none⟩,
  ⟨(some 66), .mv (.t 65), none⟩,
  ⟨(some 67), .fa 5 (.t 1), some (66, true)⟩,
  ⟨(some 68), .ld none (.t 67), some (66, true)⟩,
  ⟨(some 69), .bin .eql (.t 68) (.k (.c (.int .i64 0))), some (66, true)⟩,
  ⟨(some 70), .pick (.t 66) (.t 69) (.k (.c (.bool false))), none⟩,
  ⟨(some 2), .mv (.t 70), none⟩]
def c_rotaref02_Alone : IC := (.seq (.ops o_rotaref02_Alone_0) (.seq (.seq (.ops o_rotaref02_Alone_1) (.cond (.t 30) (.seq (.ops o_rotaref02_Alone_2) .ret) .skip)) (.seq (.seq (.ops o_rotaref02_Alone_3) (.cond (.t 33) (.seq (.ops o_rotaref02_Alone_4) .ret) .skip)) (.seq (.seq (.ops o_rotaref02_Alone_5) (.cond (.t 49) (.seq (.ops o_rotaref02_Alone_6) .ret) .skip)) (.seq (.ops o_rotaref02_Alone_7) .ret)))))
def i_rotaref02_Alone : IFn := ⟨71, c_rotaref02_Alone, [(2, none)]⟩

-- F 29 rota/rotaref04.Twin: bads 0, calls []
abbrev o_rotaref04_Twin_0 : List IOper := [⟨(some 2), .mv (.k (.c (.sl none 0 0 false))), none⟩]
abbrev o_rotaref04_Twin_1 : List IOper := [⟨(some 3), .mv (.k (.c (.sl none 0 0 false))), none⟩]
abbrev o_rotaref04_Twin_2 : List IOper := [⟨(some 4), .mv (.t 3), none⟩,
  ⟨(some 5), .mv (.t 0), none⟩,
  ⟨(some 6), .app 5 1 1 (.t 4) (.t 5), none⟩,
  ⟨(some 2), .mv (.t 6), none⟩]
def c_rotaref04_Twin : IC := (.seq (.ops o_rotaref04_Twin_0) (.seq (.ops o_rotaref04_Twin_1) (.seq (.ops o_rotaref04_Twin_2) .ret)))
def i_rotaref04_Twin : IFn := ⟨7, c_rotaref04_Twin, [(2, none)]⟩

-- F 30 (*rota/rotaref04.Box).Send: bads 0, calls [44]
abbrev o_rotaref04_Box_Send_0 : List IOper := [⟨(some 4), .mv (.k (.c (.int .i64 0))), none⟩]
abbrev o_rotaref04_Box_Send_1 : List IOper := [⟨(some 5), .mv (.t 0), none⟩,
  ⟨(some 6), .nilck (.t 5), none⟩,
  ⟨(some 7), .fa 0 (.t 6), none⟩,
  ⟨(some 8), .fa 2 (.t 7), none⟩,
  ⟨(some 9), .ld none (.t 8), none⟩,
  ⟨(some 10), .bin .neq (.t 9) (.k (.c (.int .i64 1))), none⟩]
abbrev o_rotaref04_Box_Send_2 : List IOper := [⟨(some 4), .mv (.k (.c (.int .i64 40))), none⟩]
abbrev o_rotaref04_Box_Send_3 : List IOper := [⟨(some 11), .mv (.t 1), none⟩,
  ⟨(some 12), .len false (.t 11), none⟩,
  ⟨(some 13), .mv (.t 0), none⟩,
  ⟨(some 14), .nilck (.t 13), none⟩,
  ⟨(some 15), .fa 0 (.t 14), none⟩,
  ⟨(some 16), .fa 3 (.t 15), none⟩,
  ⟨(some 17), .ld none (.t 16), none⟩,
  ⟨(some 18), .bin .neq (.t 12) (.t 17), none⟩]
abbrev o_rotaref04_Box_Send_4 : List IOper := [⟨(some 4), .mv (.k (.c (.int .i64 45))), none⟩]
abbrev o_rotaref04_Box_Send_5 : List IOper := [⟨(some 19), .mv (.t 0), none⟩,
  ⟨(some 20), .mv (.t 1), none⟩,
  ⟨(some 21), .call (.k (.c (.fn fn_rotaref04_Box_put [] []))) [(.t 19), (.t 20)], none⟩,
  ⟨(some 4), .mv (.t 21), none⟩]
def c_rotaref04_Box_Send : IC := (.seq (.ops o_rotaref04_Box_Send_0) (.seq (.seq (.ops o_rotaref04_Box_Send_1) (.cond (.t 10) (.seq (.ops o_rotaref04_Box_Send_2) .ret) .skip)) (.seq (.seq (.ops o_rotaref04_Box_Send_3) (.cond (.t 18) (.seq (.ops o_rotaref04_Box_Send_4) .ret) .skip)) (.seq (.ops o_rotaref04_Box_Send_5) .ret))))
def i_rotaref04_Box_Send : IFn := ⟨22, c_rotaref04_Box_Send, [(4, none)]⟩

-- F 31 (*rota/rotaref04.Box).Take: bads 0, calls [45]
abbrev o_rotaref04_Box_Take_0 : List IOper := [⟨(some 2), .mv (.k (.c (.sl none 0 0 false))), none⟩,
  ⟨(some 3), .mv (.k (.c (.bool false))), none⟩]
abbrev o_rotaref04_Box_Take_1 : List IOper := [⟨(some 4), .mv (.t 0), none⟩,
  ⟨(some 5), .nilck (.t 4), none⟩,
  ⟨(some 6), .fa 0 (.t 5), none⟩,
  ⟨(some 7), .fa 2 (.t 6), none⟩,
  ⟨(some 8), .ld none (.t 7), none⟩,
  ⟨(some 9), .bin .neq (.t 8) (.k (.c (.int .i64 1))), none⟩]
abbrev o_rotaref04_Box_Take_2 : List IOper := [⟨(some 2), .mv (.k (.c (.sl none 0 0 false))), none⟩,
  ⟨(some 3), .mv (.k (.c (.bool false))), none⟩]
abbrev o_rotaref04_Box_Take_3 : List IOper := [⟨(some 10), .mv (.t 0), none⟩,
  ⟨(some 11), .call (.k (.c (.fn fn_rotaref04_Box_get [] []))) [(.t 10)], none⟩,
  ⟨(some 12), .ext (.t 11) 0, none⟩,
  ⟨(some 13), .ext (.t 11) 1, none⟩,
  ⟨(some 2), .mv (.t 12), none⟩,
  ⟨(some 3), .mv (.t 13), none⟩]
def c_rotaref04_Box_Take : IC := (.seq (.ops o_rotaref04_Box_Take_0) (.seq (.seq (.ops o_rotaref04_Box_Take_1) (.cond (.t 9) (.seq (.ops o_rotaref04_Box_Take_2) .ret) .skip)) (.seq (.ops o_rotaref04_Box_Take_3) .ret)))
def i_rotaref04_Box_Take : IFn := ⟨14, c_rotaref04_Box_Take, [(2, none), (3, none)]⟩

-- F 32 (*rota/rotalaw04.kept).keep: bads 0, calls [29]
abbrev o_rotalaw04_kept_keep_0 : List IOper := [⟨(some 6), .mv (.t 1), none⟩,
  ⟨(some 7), .len false (.t 6), none⟩,
  ⟨(some 8), .mv (.k (.c (.int .i64 0))), none⟩]
abbrev o_rotalaw04_kept_keep_1 : List IOper := [⟨(some 9), .bin .lss (.t 8) (.t 7), none⟩]
abbrev o_rotalaw04_kept_keep_2 : List IOper := [⟨(some 10), .mv (.t 8), none⟩,
  ⟨(some 4), .mv (.t 10), none⟩]
abbrev o_rotalaw04_kept_keep_3 : List IOper := [⟨(some 11), .mv (.t 1), none⟩,
  ⟨(some 12), .mv (.t 4), none⟩,
  ⟨(some 13), .mv (.t 1), none⟩,
  ⟨(some 14), .mv (.t 4), none⟩,
  ⟨(some 15), .iaS 1 (.t 13) (.t 14), none⟩,
  ⟨(some 16), .ld none (.t 15), none⟩,
  ⟨(some 17), .bin .add (.t 16) (.k (.c (.int .u8 1))), none⟩,
  ⟨(some 18), .iaS 1 (.t 11) (.t 12), none⟩,
  ⟨none, .st 1 (.t 18) (.t 17), none⟩]
abbrev o_rotalaw04_kept_keep_4 : List IOper := [⟨(some 19), .bin .add (.t 8) (.k (.c (.int .i64 1))), none⟩,
  ⟨(some 8), .mv (.t 19), none⟩]
def b_rotalaw04_kept_keep_5 : IC := (.seq (.ops o_rotalaw04_kept_keep_1) (.seq (.cond (.t 9) .skip (.exit 0)) (.seq (.block 1 (.seq (.ops o_rotalaw04_kept_keep_2) (.ops o_rotalaw04_kept_keep_3))) (.ops o_rotalaw04_kept_keep_4))))
abbrev o_rotalaw04_kept_keep_6 : List IOper := [⟨(some 20), .mv (.t 1), none⟩,
  ⟨(some 21), .bsl 5 1 [(.int .u8 0)] [(0, 1, (.k (.c (.int .u8 77))))], none⟩,
  ⟨(some 22), .app 5 1 1 (.t 20) (.t 21), none⟩,
  ⟨(some 5), .mv (.t 22), none⟩]
abbrev o_rotalaw04_kept_keep_7 : List IOper := [⟨(some 23), .mv (.t 0), none⟩,
  ⟨(some 24), .mv (.t 0), none⟩,
  ⟨(some 25), .nilck (.t 24), none⟩,
  ⟨(some 26), .fa 0 (.t 25), none⟩,
  ⟨(some 27), .ld none (.t 26), none⟩,
  ⟨(some 28), .mv (.t 5), none⟩,
  ⟨(some 29), .bsl 22 1 [(.sl none 0 0 false)] [(0, 1, (.t 28))], none⟩,
  ⟨(some 30), .app 22 1 24 (.t 27) (.t 29), none⟩,
  ⟨(some 31), .nilck (.t 23), none⟩,
  ⟨(some 32), .fa 0 (.t 31), none⟩,
  ⟨none, .st 1 (.t 32) (.t 30), none⟩]
abbrev o_rotalaw04_kept_keep_8 : List IOper := [⟨(some 38), .mv (.t 5), none⟩,
  ⟨(some 34), .mv (.t 0), none⟩,
  ⟨(some 35), .nilck (.t 34), none⟩,
  ⟨(some 36), .fa 1 (.t 35), none⟩,
  ⟨(some 37), .ld none (.t 36), none⟩,
  ⟨(some 33), .mv (.t 0), none⟩,
  ⟨(some 39), .call (.k (.c (.fn fn_rotaref04_Twin [] []))) [(.t 38)], none⟩,
  ⟨none, .same (some none) (.t 36) (.t 37), none⟩,
  ⟨(some 40), .bsl 22 1 [(.sl none 0 0 false)] [(0, 1, (.t 39))], none⟩,
  ⟨(some 41), .app 22 1 24 (.t 37) (.t 40), none⟩,
  ⟨(some 42), .nilck (.t 33), none⟩,
  ⟨(some 43), .fa 1 (.t 42), none⟩,
  ⟨none, .st 1 (.t 43) (.t 41), none⟩]
def c_rotalaw04_kept_keep : IC := (.seq (.seq (.ops o_rotalaw04_kept_keep_0) (.block 0 (.loop b_rotalaw04_kept_keep_5))) (.seq (.ops o_rotalaw04_kept_keep_6) (.seq (.ops o_rotalaw04_kept_keep_7) (.ops o_rotalaw04_kept_keep_8))))
def i_rotalaw04_kept_keep : IFn := ⟨44, c_rotalaw04_kept_keep, []⟩

-- F 33 (*rota/rotaref04.Box).Arrive: bads 0, calls [44]
abbrev o_rotaref04_Box_Arrive_0 : List IOper := [⟨(some 6), .mv (.k (.c (.int .i64 0))), none⟩]
abbrev o_rotaref04_Box_Arrive_1 : List IOper := [⟨(some 8), .mv (.t 0), none⟩,
  ⟨(some 9), .nilck (.t 8), none⟩,
  ⟨(some 10), .fa 0 (.t 9), none⟩,
  ⟨(some 11), .fa 2 (.t 10), none⟩,
  ⟨(some 12), .ld none (.t 11), none⟩,
  ⟨(some 13), .bin .neq (.t 12) (.k (.c (.int .i64 2))), none⟩]
abbrev o_rotaref04_Box_Arrive_2 : List IOper := [⟨(some 6), .mv (.k (.c (.int .i64 40))), none⟩]
abbrev o_rotaref04_Box_Arrive_3 : List IOper := [⟨(some 14), .mv (.t 2), none⟩,
  ⟨(some 15), .bin .lss (.t 14) (.k (.c (.int .i64 0))), none⟩]
abbrev o_rotaref04_Box_Arrive_4 : List IOper := [⟨(some 6), .mv (.k (.c (.int .i64 2))), none⟩]
abbrev o_rotaref04_Box_Arrive_5 : List IOper := [⟨(some 16), .mv (.t 1), none⟩,
  ⟨(some 17), .len false (.t 16), none⟩,
  ⟨(some 18), .mv (.t 0), none⟩,
  ⟨(some 19), .nilck (.t 18), none⟩,
  ⟨(some 20), .fa 0 (.t 19), none⟩,
  ⟨(some 21), .fa 3 (.t 20), none⟩,
  ⟨(some 22), .ld none (.t 21), none⟩,
  ⟨(some 23), .bin .neq (.t 17) (.t 22), none⟩]
abbrev o_rotaref04_Box_Arrive_6 : List IOper := [⟨(some 6), .mv (.k (.c (.int .i64 45))), none⟩]
abbrev o_rotaref04_Box_Arrive_7 : List IOper := [⟨(some 24), .mv (.t 0), none⟩,
  ⟨(some 25), .mv (.t 1), none⟩,
  ⟨(some 26), .call (.k (.c (.fn fn_rotaref04_Box_put [] []))) [(.t 24), (.t 25)], none⟩,
  ⟨(some 7), .mv (.t 26), none⟩]
abbrev o_rotaref04_Box_Arrive_8 : List IOper := [⟨(some 27), .mv (.t 7), none⟩,
  ⟨(some 28), .bin .neq (.t 27) (.k (.c (.int .i64 0))), none⟩]
abbrev o_rotaref04_Box_Arrive_9 : List IOper := [⟨(some 29), .mv (.t 0), none⟩,
  ⟨(some 30), .nilck (.t 29), none⟩,
  ⟨(some 31), .fa 8 (.t 30), none⟩,
  ⟨none, .st 1 (.t 31) (.k (.c (.bool true))), none⟩]
abbrev o_rotaref04_Box_Arrive_10 : List IOper := [⟨(some 32), .mv (.t 7), none⟩,
  ⟨(some 6), .mv (.t 32), none⟩]
abbrev o_rotaref04_Box_Arrive_11 : List IOper := [⟨(some 33), .mv (.t 0), none⟩,
  ⟨(some 34), .mv (.t 2), none⟩,
  ⟨(some 35), .nilck (.t 33), none⟩,
  ⟨(some 36), .fa 7 (.t 35), none⟩,
  ⟨none, .st 1 (.t 36) (.t 34), none⟩]
abbrev o_rotaref04_Box_Arrive_12 : List IOper := [⟨(some 6), .mv (.k (.c (.int .i64 0))), none⟩]
def c_rotaref04_Box_Arrive : IC := (.seq (.ops o_rotaref04_Box_Arrive_0) (.seq (.seq (.ops o_rotaref04_Box_Arrive_1) (.cond (.t 13) (.seq (.ops o_rotaref04_Box_Arrive_2) .ret) .skip)) (.seq (.seq (.ops o_rotaref04_Box_Arrive_3) (.cond (.t 15) (.seq (.ops o_rotaref04_Box_Arrive_4) .ret) .skip)) (.seq (.seq (.ops o_rotaref04_Box_Arrive_5) (.cond (.t 23) (.seq (.ops o_rotaref04_Box_Arrive_6) .ret) .skip)) (.seq (.ops o_rotaref04_Box_Arrive_7) (.seq (.seq (.ops o_rotaref04_Box_Arrive_8) (.cond (.t 28) (.seq (.ops o_rotaref04_Box_Arrive_9) (.seq (.ops o_rotaref04_Box_Arrive_10) .ret)) .skip)) (.seq (.ops o_rotaref04_Box_Arrive_11) (.seq (.ops o_rotaref04_Box_Arrive_12) .ret))))))))
def i_rotaref04_Box_Arrive : IFn := ⟨37, c_rotaref04_Box_Arrive, [(6, none)]⟩

-- F 34 (*rota/rotaref04.Box).Recv: bads 0, calls [45]
abbrev o_rotaref04_Box_Recv_0 : List IOper := [⟨(some 4), .mv (.k (.c (.sl none 0 0 false))), none⟩,
  ⟨(some 5), .mv (.k (.c (.int .i64 0))), none⟩]
abbrev o_rotaref04_Box_Recv_1 : List IOper := [⟨(some 8), .mv (.t 0), none⟩,
  ⟨(some 9), .nilck (.t 8), none⟩,
  ⟨(some 10), .fa 0 (.t 9), none⟩,
  ⟨(some 11), .fa 2 (.t 10), none⟩,
  ⟨(some 12), .ld none (.t 11), none⟩,
  ⟨(some 13), .bin .neq (.t 12) (.k (.c (.int .i64 2))), none⟩]
abbrev o_rotaref04_Box_Recv_2 : List IOper := [⟨(some 4), .mv (.k (.c (.sl none 0 0 false))), none⟩,
  ⟨(some 5), .mv (.k (.c (.int .i64 40))), none⟩]
abbrev o_rotaref04_Box_Recv_3 : List IOper := [⟨(some 14), .mv (.t 1), none⟩,
  ⟨(some 15), .bin .lss (.t 14) (.k (.c (.int .i64 0))), none⟩]
abbrev o_rotaref04_Box_Recv_4 : List IOper := [⟨(some 4), .mv (.k (.c (.sl none 0 0 false))), none⟩,
  ⟨(some 5), .mv (.k (.c (.int .i64 2))), none⟩]
abbrev o_rotaref04_Box_Recv_5 : List IOper := [⟨(some 16), .mv (.t 0), none⟩,
  ⟨(some 17), .nilck (.t 16), none⟩,
  ⟨(some 18), .fa 8 (.t 17), none⟩,
  ⟨(some 19), .ld none (.t 18), none⟩]
abbrev o_rotaref04_Box_Recv_6 : List IOper := [⟨(some 20), .mv (.t 0), none⟩,
  ⟨(some 21), .nilck (.t 20), none⟩,
  ⟨(some 22), .fa 8 (.t 21), none⟩,
  ⟨none, .st 1 (.t 22) (.k (.c (.bool false))), none⟩]
abbrev o_rotaref04_Box_Recv_7 : List IOper := [⟨(some 4), .mv (.k (.c (.sl none 0 0 false))), none⟩,
  ⟨(some 5), .mv (.k (.c (.int .i64 44))), none⟩]
abbrev o_rotaref04_Box_Recv_8 : List IOper := [⟨(some 23), .mv (.t 0), none⟩,
  ⟨(some 24), .nilck (.t 23), none⟩,
  ⟨(some 25), .fa 6 (.t 24), none⟩,
  ⟨(some 26), .ld none (.t 25), none⟩,
  ⟨(some 27), .len false (.t 26), none⟩,
  ⟨(some 28), .bin .eql (.t 27) (.k (.c (.int .i64 0))), none⟩]
abbrev o_rotaref04_Box_Recv_9 : List IOper := [⟨(some 4), .mv (.k (.c (.sl none 0 0 false))), none⟩,
  ⟨(some 5), .mv (.k (.c (.int .i64 42))), none⟩]
abbrev o_rotaref04_Box_Recv_10 : List IOper := [⟨(some 29), .mv (.t 0), none⟩,
  ⟨(some 30), .nilck (.t 29), none⟩,
  ⟨(some 31), .fa 0 (.t 30), none⟩,
  ⟨(some 32), .fa 1 (.t 31), none⟩,
  ⟨(some 33), .ld none (.t 32), none⟩,
  ⟨(some 34), .bin .neq (.t 33) (.k (.c (.int .i64 2))), none⟩,
  ⟨(some 35), .mv (.t 34), none⟩,
  ⟨(some 36), .mv (.t 1), some (35, true)⟩,
  ⟨(some 37), .mv (.t 0), some (35, true)⟩,
  ⟨(some 38), .nilck (.t 37), some (35, true)⟩,
  ⟨(some 39), .fa 7 (.t 38), some (35, true)⟩,
  ⟨(some 40), .ld none (.t 39), some (35, true)⟩,
  ⟨(some 41), .bin .geq (.t 36) (.t 40), some (35, true)⟩,
  ⟨(some 42), .pick (.t 35) (.t 41) (.k (.c (.bool false))), none⟩,
  ⟨(some 43), .mv (.t 42), none⟩,
  ⟨(some 44), .mv (.t 1), some (43, true)⟩,
  ⟨(some 45), .mv (.t 0), some (43, true)⟩,
  ⟨(some 46), .nilck (.t 45), some (43, true)⟩,
  ⟨(some 47), .fa 7 (.t 46), some (43, true)⟩,
  ⟨(some 48), .ld none (.t 47), some (43, true)⟩,
  ⟨(some 49), .bin .sub (.t 44) (.t 48), some (43, true)⟩,
  ⟨(some 50), .mv (.t 0), some (43, true)⟩,
  ⟨(some 51), .nilck (.t 50), some (43, true)⟩,
  ⟨(some 52), .fa 0 (.t 51), some (43, true)⟩,
  ⟨(some 53), .fa 5 (.t 52), some (43, true)⟩,
  ⟨(some 54), .ld none (.t 53), some (43, true)⟩,
  ⟨(some 55), .bin .geq (.t 49) (.t 54), some (43, true)⟩,
  ⟨(some 56), .pick (.t 43) (.t 55) (.k (.c (.bool false))), none⟩]
abbrev o_rotaref04_Box_Recv_11 : List IOper := [⟨(some 4), .mv (.k (.c (.sl none 0 0 false))), none⟩,
  ⟨(some 5), .mv (.k (.c (.int .i64 43))), none⟩]
abbrev o_rotaref04_Box_Recv_12 : List IOper := [⟨(some 58), .mv (.t 0), none⟩,
  ⟨(some 59), .call (.k (.c (.fn fn_rotaref04_Box_get [] []))) [(.t 58)], none⟩,
  ⟨(some 57), .mv (.t 59), none⟩,
  ⟨(some 60), .ext (.t 57) 0, none⟩,
  ⟨(some 61), .ext (.t 57) 1, none⟩,
  ⟨(some 6), .mv (.t 60), none⟩,
  ⟨(some 7), .mv (.t 61), none⟩]
abbrev o_rotaref04_Box_Recv_13 : List IOper := [⟨(some 62), .mv (.t 6), none⟩,
  ⟨(some 4), .mv (.t 62), none⟩,
  ⟨(some 5), .mv (.k (.c (.int .i64 0))), none⟩]
def c_rotaref04_Box_Recv : IC := (.seq (.ops o_rotaref04_Box_Recv_0) (.seq (.seq (.ops o_rotaref04_Box_Recv_1) (.cond (.t 13) (.seq (.ops o_rotaref04_Box_Recv_2) .ret) .skip)) (.seq (.seq (.ops o_rotaref04_Box_Recv_3) (.cond (.t 15) (.seq (.ops o_rotaref04_Box_Recv_4) .ret) .skip)) (.seq (.seq (.ops o_rotaref04_Box_Recv_5) (.cond (.t 19) (.seq (.ops o_rotaref04_Box_Recv_6) (.seq (.ops o_rotaref04_Box_Recv_7) .ret)) .skip)) (.seq (.seq (.ops o_rotaref04_Box_Recv_8) (.cond (.t 28) (.seq (.ops o_rotaref04_Box_Recv_9) .ret) .skip)) (.seq (.seq (.ops o_rotaref04_Box_Recv_10) (.cond (.t 56) (.seq (.ops o_rotaref04_Box_Recv_11) .ret) .skip)) (.seq (.ops o_rotaref04_Box_Recv_12) (.seq (.ops o_rotaref04_Box_Recv_13) .ret))))))))
def i_rotaref04_Box_Recv : IFn := ⟨63, c_rotaref04_Box_Recv, [(4, none), (5, none)]⟩

-- F 35 (*rota/port.Box).all: bads 0, calls [46]
abbrev o_port_Box_all_0 : List IOper := [⟨(some 2), .mv (.k (.c .nilFn)), none⟩]
abbrev o_port_Box_all_1 : List IOper := [⟨(some 3), .mv (.t 0), none⟩,
  ⟨(some 4), .nilck (.t 3), none⟩,
  ⟨(some 5), .fa 7 (.t 4), none⟩,
  ⟨(some 6), .ld none (.t 5), none⟩,
  ⟨(some 7), .call (.k (.c (.fn fn_slices_Values_byte_byte [] []))) [(.t 6)], none⟩,
  ⟨(some 2), .mv (.t 7), none⟩]
def c_port_Box_all : IC := (.seq (.ops o_port_Box_all_0) (.seq (.ops o_port_Box_all_1) .ret))
def i_port_Box_all : IFn := ⟨8, c_port_Box_all, [(2, none)]⟩

-- F 36 slices.Clone[[]byte,byte]: bads 0, calls []
abbrev o_slices_Clone_byte_byte_0 : List IOper := [⟨(some 2), .mv (.k (.c (.sl none 0 0 false))), none⟩]
abbrev o_slices_Clone_byte_byte_1 : List IOper := [⟨(some 3), .mv (.t 0), none⟩,
  ⟨(some 4), .eq .sl false (.t 3) (.k (.c (.sl none 0 0 false))), none⟩]
abbrev o_slices_Clone_byte_byte_2 : List IOper := [⟨(some 2), .mv (.k (.c (.sl none 0 0 false))), none⟩]
abbrev o_slices_Clone_byte_byte_3 : List IOper := [⟨(some 5), .bsl 5 0 [] [], none⟩,
  ⟨(some 6), .mv (.t 0), none⟩,
  ⟨(some 7), .app 5 1 1 (.t 5) (.t 6), none⟩,
  ⟨(some 2), .mv (.t 7), none⟩]
def c_slices_Clone_byte_byte : IC := (.seq (.ops o_slices_Clone_byte_byte_0) (.seq (.seq (.ops o_slices_Clone_byte_byte_1) (.cond (.t 4) (.seq (.ops o_slices_Clone_byte_byte_2) .ret) .skip)) (.seq (.ops o_slices_Clone_byte_byte_3) .ret)))
def i_slices_Clone_byte_byte : IFn := ⟨8, c_slices_Clone_byte_byte, [(2, none)]⟩

-- F 37 rota/port.kinds$1: bads 0, calls [36]
abbrev o_port_kinds_1_0 : List IOper := [⟨(some 4), .mv (.k (.c (.int .i64 0))), none⟩]
abbrev o_port_kinds_1_1 : List IOper := [⟨(some 5), .mv (.t 0), none⟩,
  ⟨(some 6), .nilck (.t 5), none⟩,
  ⟨(some 7), .fa 7 (.t 6), none⟩,
  ⟨(some 8), .ld none (.t 7), none⟩,
  ⟨(some 9), .len false (.t 8), none⟩,
  ⟨(some 10), .mv (.t 0), none⟩,
  ⟨(some 11), .nilck (.t 10), none⟩,
  ⟨(some 12), .fa 0 (.t 11), none⟩,
  ⟨(some 13), .fa 4 (.t 12), none⟩,
  ⟨(some 14), .ld none (.t 13), none⟩,
  ⟨(some 15), .bin .eql (.t 9) (.t 14), none⟩]
abbrev o_port_kinds_1_2 : List IOper := [⟨(some 4), .mv (.k (.c (.int .i64 41))), none⟩]
abbrev o_port_kinds_1_3 : List IOper := [⟨(some 21), .mv (.t 1), none⟩,
  ⟨(some 17), .mv (.t 0), none⟩,
  ⟨(some 18), .nilck (.t 17), none⟩,
  ⟨(some 19), .fa 7 (.t 18), none⟩,
  ⟨(some 20), .ld none (.t 19), none⟩,
  ⟨(some 16), .mv (.t 0), none⟩,
  ⟨(some 22), .call (.k (.c (.fn fn_slices_Clone_byte_byte [] []))) [(.t 21)], none⟩,
  ⟨none, .same (some none) (.t 19) (.t 20), none⟩,
  ⟨(some 23), .bsl 22 1 [(.sl none 0 0 false)] [(0, 1, (.t 22))], none⟩,
  ⟨(some 24), .app 22 1 24 (.t 20) (.t 23), none⟩,
  ⟨(some 25), .nilck (.t 16), none⟩,
  ⟨(some 26), .fa 7 (.t 25), none⟩,
  ⟨none, .st 1 (.t 26) (.t 24), none⟩]
abbrev o_port_kinds_1_4 : List IOper := [⟨(some 4), .mv (.k (.c (.int .i64 0))), none⟩]
def c_port_kinds_1 : IC := (.seq (.ops o_port_kinds_1_0) (.seq (.seq (.ops o_port_kinds_1_1) (.cond (.t 15) (.seq (.ops o_port_kinds_1_2) .ret) .skip)) (.seq (.ops o_port_kinds_1_3) (.seq (.ops o_port_kinds_1_4) .ret))))
def i_port_kinds_1 : IFn := ⟨27, c_port_kinds_1, [(4, none)]⟩

-- F 38 rota/port.kinds$2: bads 0, calls [39]
abbrev o_port_kinds_2_0 : List IOper := [⟨(some 2), .mv (.k (.c (.sl none 0 0 false))), none⟩,
  ⟨(some 3), .mv (.k (.c (.bool false))), none⟩]
abbrev o_port_kinds_2_1 : List IOper := [⟨(some 5), .mv (.t 0), none⟩,
  ⟨(some 6), .nilck (.t 5), none⟩,
  ⟨(some 7), .fa 7 (.t 6), none⟩,
  ⟨(some 8), .ld none (.t 7), none⟩,
  ⟨(some 9), .len false (.t 8), none⟩,
  ⟨(some 10), .bin .eql (.t 9) (.k (.c (.int .i64 0))), none⟩]
abbrev o_port_kinds_2_2 : List IOper := [⟨(some 2), .mv (.k (.c (.sl none 0 0 false))), none⟩,
  ⟨(some 3), .mv (.k (.c (.bool false))), none⟩]
abbrev o_port_kinds_2_3 : List IOper := [⟨(some 11), .mv (.t 0), none⟩,
  ⟨(some 12), .nilck (.t 11), none⟩,
  ⟨(some 13), .fa 7 (.t 12), none⟩,
  ⟨(some 14), .ld none (.t 13), none⟩,
  ⟨(some 15), .iaS 1 (.t 14) (.k (.c (.int .i64 0))), none⟩,
  ⟨(some 16), .ld none (.t 15), none⟩,
  ⟨(some 4), .mv (.t 16), none⟩]
abbrev o_port_kinds_2_4 : List IOper := [⟨(some 17), .mv (.t 0), none⟩,
  ⟨(some 18), .mv (.t 0), none⟩,
  ⟨(some 19), .nilck (.t 18), none⟩,
  ⟨(some 20), .fa 7 (.t 19), none⟩,
  ⟨(some 21), .ld none (.t 20), none⟩,
  ⟨(some 22), .call (.k (.c (.fn fn_slices_Delete_byte_byte [] []))) [(.t 21), (.k (.c (.int .i64 0))), (.k (.c (.int .i64 1)))], none⟩,
  ⟨(some 23), .nilck (.t 17), none⟩,
  ⟨(some 24), .fa 7 (.t 23), none⟩,
  ⟨none, .st 1 (.t 24) (.t 22), none⟩]
abbrev o_port_kinds_2_5 : List IOper := [⟨(some 25), .mv (.t 4), none⟩,
  ⟨(some 2), .mv (.t 25), none⟩,
  ⟨(some 3), .mv (.k (.c (.bool true))), none⟩]
def c_port_kinds_2 : IC := (.seq (.ops o_port_kinds_2_0) (.seq (.seq (.ops o_port_kinds_2_1) (.cond (.t 10) (.seq (.ops o_port_kinds_2_2) .ret) .skip)) (.seq (.ops o_port_kinds_2_3) (.seq (.ops o_port_kinds_2_4) (.seq (.ops o_port_kinds_2_5) .ret)))))
def i_port_kinds_2 : IFn := ⟨26, c_port_kinds_2, [(2, none), (3, none)]⟩

-- F 39 slices.Delete[[][]byte,[]byte]: bads 0, calls []
abbrev o_slices_Delete_byte_byte_0 : List IOper := [⟨(some 6), .mv (.k (.c (.sl none 0 0 false))), none⟩]
abbrev o_slices_Delete_byte_byte_1 : List IOper := [⟨(some 8), .mv (.t 0), none⟩,
  ⟨(some 9), .mv (.t 1), none⟩,
  ⟨(some 10), .mv (.t 2), none⟩,
  ⟨(some 11), .mv (.t 0), none⟩,
  ⟨(some 12), .len false (.t 11), none⟩,
  ⟨(some 13), .slS 1 (.t 8) (some (.t 9)) (some (.t 10)) (some (.t 12)), none⟩]
abbrev o_slices_Delete_byte_byte_2 : List IOper := [⟨(some 14), .mv (.t 1), none⟩,
  ⟨(some 15), .mv (.t 2), none⟩,
  ⟨(some 16), .bin .eql (.t 14) (.t 15), none⟩]
abbrev o_slices_Delete_byte_byte_3 : List IOper := [⟨(some 17), .mv (.t 0), none⟩,
  ⟨(some 6), .mv (.t 17), none⟩]
abbrev o_slices_Delete_byte_byte_4 : List IOper := [⟨(some 18), .mv (.t 0), none⟩,
  ⟨(some 19), .len false (.t 18), none⟩,
  ⟨(some 7), .mv (.t 19), none⟩]
abbrev o_slices_Delete_byte_byte_5 : List IOper := [⟨(some 20), .mv (.t 0), none⟩,
  ⟨(some 21), .mv (.t 1), none⟩,
  ⟨(some 22), .slS 1 (.t 20) none (some (.t 21)) none, none⟩,
  ⟨(some 23), .mv (.t 0), none⟩,
  ⟨(some 24), .mv (.t 2), none⟩,
  ⟨(some 25), .slS 1 (.t 23) (some (.t 24)) none none, none⟩,
  ⟨(some 26), .app 22 1 24 (.t 22) (.t 25), none⟩,
  ⟨(some 0), .mv (.t 26), none⟩]
abbrev o_slices_Delete_byte_byte_6 : List IOper := [⟨(some 27), .mv (.t 0), none⟩,
  ⟨(some 28), .mv (.t 0), none⟩,
  ⟨(some 29), .len false (.t 28), none⟩,
  ⟨(some 30), .mv (.t 7), none⟩,
  ⟨(some 31), .slS 1 (.t 27) (some (.t 29)) (some (.t 30)) none, none⟩,
  ⟨none, .clr 1 [(.sl none 0 0 false)] (.t 31), none⟩]
abbrev o_slices_Delete_byte_byte_7 : List IOper := [⟨(some 32), .mv (.t 0), none⟩,
  ⟨(some 6), .mv (.t 32), none⟩]
def c_slices_Delete_byte_byte : IC := (.seq (.ops o_slices_Delete_byte_byte_0) (.seq (.ops o_slices_Delete_byte_byte_1) (.seq (.seq (.ops o_slices_Delete_byte_byte_2) (.cond (.t 16) (.seq (.ops o_slices_Delete_byte_byte_3) .ret) .skip)) (.seq (.ops o_slices_Delete_byte_byte_4) (.seq (.ops o_slices_Delete_byte_byte_5) (.seq (.ops o_slices_Delete_byte_byte_6) (.seq (.ops o_slices_Delete_byte_byte_7) .ret)))))))
def i_slices_Delete_byte_byte : IFn := ⟨33, c_slices_Delete_byte_byte, [(6, none)]⟩

-- F 40 rota/port.kinds$3: bads 0, calls []
abbrev o_port_kinds_3_0 : List IOper := [⟨(some 4), .mv (.k (.c (.int .i64 0))), none⟩]
abbrev o_port_kinds_3_1 : List IOper := [⟨(some 5), .mv (.t 0), none⟩,
  ⟨(some 6), .nilck (.t 5), none⟩,
  ⟨(some 7), .fa 9 (.t 6), none⟩,
  ⟨(some 8), .ld none (.t 7), none⟩]
abbrev o_port_kinds_3_2 : List IOper := [⟨(some 9), .mv (.t 0), none⟩,
  ⟨(some 10), .nilck (.t 9), none⟩,
  ⟨(some 11), .fa 9 (.t 10), none⟩,
  ⟨none, .st 1 (.t 11) (.k (.c (.bool false))), none⟩]
abbrev o_port_kinds_3_3 : List IOper := [⟨(some 4), .mv (.k (.c (.int .i64 44))), none⟩]
abbrev o_port_kinds_3_4 : List IOper := [⟨(some 4), .mv (.k (.c (.int .i64 0))), none⟩]
def c_port_kinds_3 : IC := (.seq (.ops o_port_kinds_3_0) (.seq (.seq (.ops o_port_kinds_3_1) (.cond (.t 8) (.seq (.ops o_port_kinds_3_2) (.seq (.ops o_port_kinds_3_3) .ret)) .skip)) (.seq (.ops o_port_kinds_3_4) .ret)))
def i_port_kinds_3 : IFn := ⟨12, c_port_kinds_3, [(4, none)]⟩

-- F 41 rota/port.kinds$4: bads 0, calls [36]
abbrev o_port_kinds_4_0 : List IOper := [⟨(some 4), .mv (.k (.c (.int .i64 0))), none⟩]
abbrev o_port_kinds_4_1 : List IOper := [⟨(some 5), .mv (.t 0), none⟩,
  ⟨(some 6), .mv (.t 1), none⟩,
  ⟨(some 7), .call (.k (.c (.fn fn_slices_Clone_byte_byte [] []))) [(.t 6)], none⟩,
  ⟨(some 8), .bsl 22 1 [(.sl none 0 0 false)] [(0, 1, (.t 7))], none⟩,
  ⟨(some 9), .nilck (.t 5), none⟩,
  ⟨(some 10), .fa 7 (.t 9), none⟩,
  ⟨none, .st 1 (.t 10) (.t 8), none⟩]
abbrev o_port_kinds_4_2 : List IOper := [⟨(some 4), .mv (.k (.c (.int .i64 0))), none⟩]
def c_port_kinds_4 : IC := (.seq (.ops o_port_kinds_4_0) (.seq (.ops o_port_kinds_4_1) (.seq (.ops o_port_kinds_4_2) .ret)))
def i_port_kinds_4 : IFn := ⟨11, c_port_kinds_4, [(4, none)]⟩

-- F 42 rota/port.kinds$5: bads 0, calls [35, 36]
abbrev o_port_kinds_5_0 : List IOper := [⟨(some 2), .new 22 (.c (.sl none 0 0 false)), none⟩,
  ⟨(some 3), .new 4 (.c (.bool false)), none⟩]
abbrev o_port_kinds_5_1 : List IOper := [⟨(some 5), .mv (.t 0), none⟩,
  ⟨(some 6), .call (.k (.c (.fn fn_port_Box_all [] []))) [(.t 5)], none⟩]
abbrev o_port_kinds_5_2 : List IOper := [⟨(some 4), .mv (.t 7), none⟩]
abbrev o_port_kinds_5_3 : List IOper := [⟨(some 8), .mv (.t 4), none⟩,
  ⟨(some 9), .call (.k (.c (.fn fn_slices_Clone_byte_byte [] []))) [(.t 8)], none⟩,
  ⟨none, .st 1 (.t 2) (.t 9), none⟩,
  ⟨none, .st 1 (.t 3) (.k (.c (.bool true))), none⟩]
def a_port_kinds_5_4 : IC := (.ops o_port_kinds_5_2)
def b_port_kinds_5_5 : IC := (.block 1 (.seq (.ops o_port_kinds_5_3) .ret))
abbrev o_port_kinds_5_6 : List IOper := [⟨none, .st 1 (.t 2) (.k (.c (.sl none 0 0 false))), none⟩,
  ⟨none, .st 1 (.t 3) (.k (.c (.bool false))), none⟩]
def c_port_kinds_5 : IC := (.seq (.ops o_port_kinds_5_0) (.seq (.seq (.ops o_port_kinds_5_1) (.block 0 (.rangeF (.t 6) [7] a_port_kinds_5_4 b_port_kinds_5_5))) (.seq (.ops o_port_kinds_5_6) .ret)))
def i_port_kinds_5 : IFn := ⟨10, c_port_kinds_5, [(2, (some none)), (3, (some none))]⟩

-- F 43 rota/port.kinds$6: bads 0, calls []
abbrev o_port_kinds_6_0 : List IOper := [⟨(some 4), .mv (.k (.c (.int .i64 0))), none⟩]
abbrev o_port_kinds_6_1 : List IOper := [⟨(some 5), .mv (.t 0), none⟩,
  ⟨(some 6), .nilck (.t 5), none⟩,
  ⟨(some 7), .fa 7 (.t 6), none⟩,
  ⟨(some 8), .ld none (.t 7), none⟩,
  ⟨(some 9), .len false (.t 8), none⟩,
  ⟨(some 10), .bin .gtr (.t 9) (.k (.c (.int .i64 0))), none⟩,
  ⟨(some 11), .mv (.t 10), none⟩,
  ⟨(some 12), .mv (.t 1), some (11, true)⟩,
  ⟨(some 13), .mv (.t 0), some (11, true)⟩,
  ⟨(some 14), .nilck (.t 13), some (11, true)⟩,
  ⟨(some 15), .fa 8 (.t 14), some (11, true)⟩,
  ⟨(some 16), .ld none (.t 15), some (11, true)⟩,
  ⟨(some 17), .bin .sub (.t 12) (.t 16), some (11, true)⟩,
  ⟨(some 18), .mv (.t 0), some (11, true)⟩,
  ⟨(some 19), .nilck (.t 18), some (11, true)⟩,
  ⟨(some 20), .fa 0 (.t 19), some (11, true)⟩,
  ⟨(some 21), .fa 5 (.t 20), some (11, true)⟩,
  ⟨(some 22), .ld none (.t 21), some (11, true)⟩,
  ⟨(some 23), .bin .geq (.t 17) (.t 22), some (11, true)⟩,
  ⟨(some 24), .pick (.t 11) (.t 23) (.k (.c (.bool false))), none⟩]
abbrev o_port_kinds_6_2 : List IOper := [⟨(some 4), .mv (.k (.c (.int .i64 43))), none⟩]
abbrev o_port_kinds_6_3 : List IOper := [⟨(some 4), .mv (.k (.c (.int .i64 0))), none⟩]
def c_port_kinds_6 : IC := (.seq (.ops o_port_kinds_6_0) (.seq (.seq (.ops o_port_kinds_6_1) (.cond (.t 24) (.seq (.ops o_port_kinds_6_2) .ret) .skip)) (.seq (.ops o_port_kinds_6_3) .ret)))
def i_port_kinds_6 : IFn := ⟨25, c_port_kinds_6, [(4, none)]⟩

-- F 44 (*rota/rotaref04.Box).put: bads 0, calls [29, 47, 29]
abbrev o_rotaref04_Box_put_0 : List IOper := [⟨(some 4), .mv (.k (.c (.int .i64 0))), none⟩]
abbrev o_rotaref04_Box_put_1 : List IOper := [⟨(some 5), .mv (.t 0), none⟩,
  ⟨(some 6), .nilck (.t 5), none⟩,
  ⟨(some 7), .fa 0 (.t 6), none⟩,
  ⟨(some 8), .fa 1 (.t 7), none⟩,
  ⟨(some 9), .ld none (.t 8), none⟩,
  ⟨(some 10), .bin .neq (.t 9) (.k (.c (.int .i64 2))), none⟩]
abbrev o_rotaref04_Box_put_2 : List IOper := [⟨(some 11), .mv (.t 0), none⟩,
  ⟨(some 12), .mv (.t 1), none⟩,
  ⟨(some 13), .call (.k (.c (.fn fn_rotaref04_Twin [] []))) [(.t 12)], none⟩,
  ⟨(some 14), .bsl 22 1 [(.sl none 0 0 false)] [(0, 1, (.t 13))], none⟩,
  ⟨(some 15), .nilck (.t 11), none⟩,
  ⟨(some 16), .fa 6 (.t 15), none⟩,
  ⟨none, .st 1 (.t 16) (.t 14), none⟩]
abbrev o_rotaref04_Box_put_3 : List IOper := [⟨(some 4), .mv (.k (.c (.int .i64 0))), none⟩]
abbrev o_rotaref04_Box_put_4 : List IOper := [⟨(some 17), .mv (.t 0), none⟩,
  ⟨(some 18), .nilck (.t 17), none⟩,
  ⟨(some 19), .fa 6 (.t 18), none⟩,
  ⟨(some 20), .ld none (.t 19), none⟩,
  ⟨(some 21), .len false (.t 20), none⟩,
  ⟨(some 22), .mv (.t 0), none⟩,
  ⟨(some 23), .nilck (.t 22), none⟩,
  ⟨(some 24), .fa 0 (.t 23), none⟩,
  ⟨(some 25), .fa 4 (.t 24), none⟩,
  ⟨(some 26), .ld none (.t 25), none⟩,
  ⟨(some 27), .bin .geq (.t 21) (.t 26), none⟩]
abbrev o_rotaref04_Box_put_5 : List IOper := [⟨(some 4), .mv (.k (.c (.int .i64 41))), none⟩]
abbrev o_rotaref04_Box_put_6 : List IOper := [⟨(some 28), .mv (.t 0), none⟩,
  ⟨(some 29), .mv (.t 0), none⟩,
  ⟨(some 30), .nilck (.t 29), none⟩,
  ⟨(some 31), .fa 6 (.t 30), none⟩,
  ⟨(some 32), .ld none (.t 31), none⟩,
  ⟨(some 33), .call (.k (.c (.fn fn_rotaref04_twins [] []))) [(.t 32)], none⟩,
  ⟨(some 34), .mv (.t 1), none⟩,
  ⟨(some 35), .call (.k (.c (.fn fn_rotaref04_Twin [] []))) [(.t 34)], none⟩,
  ⟨(some 36), .bsl 22 1 [(.sl none 0 0 false)] [(0, 1, (.t 35))], none⟩,
  ⟨(some 37), .app 22 1 24 (.t 33) (.t 36), none⟩,
  ⟨(some 38), .nilck (.t 28), none⟩,
  ⟨(some 39), .fa 6 (.t 38), none⟩,
  ⟨none, .st 1 (.t 39) (.t 37), none⟩]
abbrev o_rotaref04_Box_put_7 : List IOper := [⟨(some 4), .mv (.k (.c (.int .i64 0))), none⟩]
def c_rotaref04_Box_put : IC := (.seq (.ops o_rotaref04_Box_put_0) (.seq (.seq (.ops o_rotaref04_Box_put_1) (.cond (.t 10) (.seq (.ops o_rotaref04_Box_put_2) (.seq (.ops o_rotaref04_Box_put_3) .ret)) .skip)) (.seq (.seq (.ops o_rotaref04_Box_put_4) (.cond (.t 27) (.seq (.ops o_rotaref04_Box_put_5) .ret) .skip)) (.seq (.ops o_rotaref04_Box_put_6) (.seq (.ops o_rotaref04_Box_put_7) .ret)))))
def i_rotaref04_Box_put : IFn := ⟨40, c_rotaref04_Box_put, [(4, none)]⟩

-- F 45 (*rota/rotaref04.Box).get: bads 0, calls [29, 47]
abbrev o_rotaref04_Box_get_0 : List IOper := [⟨(some 2), .mv (.k (.c (.sl none 0 0 false))), none⟩,
  ⟨(some 3), .mv (.k (.c (.bool false))), none⟩]
abbrev o_rotaref04_Box_get_1 : List IOper := [⟨(some 5), .mv (.t 0), none⟩,
  ⟨(some 6), .nilck (.t 5), none⟩,
  ⟨(some 7), .fa 6 (.t 6), none⟩,
  ⟨(some 8), .ld none (.t 7), none⟩,
  ⟨(some 9), .len false (.t 8), none⟩,
  ⟨(some 10), .bin .eql (.t 9) (.k (.c (.int .i64 0))), none⟩]
abbrev o_rotaref04_Box_get_2 : List IOper := [⟨(some 2), .mv (.k (.c (.sl none 0 0 false))), none⟩,
  ⟨(some 3), .mv (.k (.c (.bool false))), none⟩]
abbrev o_rotaref04_Box_get_3 : List IOper := [⟨(some 11), .mv (.t 0), none⟩,
  ⟨(some 12), .nilck (.t 11), none⟩,
  ⟨(some 13), .fa 6 (.t 12), none⟩,
  ⟨(some 14), .ld none (.t 13), none⟩,
  ⟨(some 15), .iaS 1 (.t 14) (.k (.c (.int .i64 0))), none⟩,
  ⟨(some 16), .ld none (.t 15), none⟩,
  ⟨(some 17), .call (.k (.c (.fn fn_rotaref04_Twin [] []))) [(.t 16)], none⟩,
  ⟨(some 4), .mv (.t 17), none⟩]
abbrev o_rotaref04_Box_get_4 : List IOper := [⟨(some 18), .mv (.t 0), none⟩,
  ⟨(some 19), .nilck (.t 18), none⟩,
  ⟨(some 20), .fa 0 (.t 19), none⟩,
  ⟨(some 21), .fa 1 (.t 20), none⟩,
  ⟨(some 22), .ld none (.t 21), none⟩,
  ⟨(some 23), .bin .eql (.t 22) (.k (.c (.int .i64 2))), none⟩]
abbrev o_rotaref04_Box_get_5 : List IOper := [⟨(some 24), .mv (.t 0), none⟩,
  ⟨(some 25), .mv (.t 0), none⟩,
  ⟨(some 26), .nilck (.t 25), none⟩,
  ⟨(some 27), .fa 6 (.t 26), none⟩,
  ⟨(some 28), .ld none (.t 27), none⟩,
  ⟨(some 29), .slS 1 (.t 28) (some (.k (.c (.int .i64 1)))) none none, none⟩,
  ⟨(some 30), .call (.k (.c (.fn fn_rotaref04_twins [] []))) [(.t 29)], none⟩,
  ⟨(some 31), .nilck (.t 24), none⟩,
  ⟨(some 32), .fa 6 (.t 31), none⟩,
  ⟨none, .st 1 (.t 32) (.t 30), none⟩]
abbrev o_rotaref04_Box_get_6 : List IOper := [⟨(some 33), .mv (.t 4), none⟩,
  ⟨(some 2), .mv (.t 33), none⟩,
  ⟨(some 3), .mv (.k (.c (.bool true))), none⟩]
def c_rotaref04_Box_get : IC := (.seq (.ops o_rotaref04_Box_get_0) (.seq (.seq (.ops o_rotaref04_Box_get_1) (.cond (.t 10) (.seq (.ops o_rotaref04_Box_get_2) .ret) .skip)) (.seq (.ops o_rotaref04_Box_get_3) (.seq (.seq (.ops o_rotaref04_Box_get_4) (.cond (.t 23) (.ops o_rotaref04_Box_get_5) .skip)) (.seq (.ops o_rotaref04_Box_get_6) .ret)))))
def i_rotaref04_Box_get : IFn := ⟨34, c_rotaref04_Box_get, [(2, none), (3, none)]⟩

-- F 46 slices.Values[[][]byte,[]byte]: bads 0, calls [48]
abbrev o_slices_Values_byte_byte_0 : List IOper := [⟨(some 1), .box 47 (.t 0), none⟩,
  ⟨(some 2), .mv (.k (.c .nilFn)), none⟩]
abbrev o_slices_Values_byte_byte_1 : List IOper := [⟨(some 3), .mkfn fn_slices_Values_byte_byte_1 [] [(.t 1)], none⟩,
  ⟨(some 2), .mv (.t 3), none⟩]
def c_slices_Values_byte_byte : IC := (.seq (.ops o_slices_Values_byte_byte_0) (.seq (.ops o_slices_Values_byte_byte_1) .ret))
def i_slices_Values_byte_byte : IFn := ⟨4, c_slices_Values_byte_byte, [(2, none)]⟩

-- F 47 rota/rotaref04.twins: bads 0, calls [29]
abbrev o_rotaref04_twins_0 : List IOper := [⟨(some 2), .mv (.k (.c (.sl none 0 0 false))), none⟩]
abbrev o_rotaref04_twins_1 : List IOper := [⟨(some 3), .mv (.k (.c (.sl none 0 0 false))), none⟩]
abbrev o_rotaref04_twins_2 : List IOper := [⟨(some 4), .mv (.k (.c (.int .i64 0))), none⟩]
abbrev o_rotaref04_twins_3 : List IOper := [⟨(some 6), .mv (.t 4), none⟩,
  ⟨(some 7), .mv (.t 0), none⟩,
  ⟨(some 8), .len false (.t 7), none⟩,
  ⟨(some 9), .bin .lss (.t 6) (.t 8), none⟩]
abbrev o_rotaref04_twins_4 : List IOper := [⟨(some 12), .mv (.t 0), none⟩,
  ⟨(some 13), .mv (.t 4), none⟩,
  ⟨(some 14), .iaS 1 (.t 12) (.t 13), none⟩,
  ⟨(some 15), .ld none (.t 14), none⟩,
  ⟨(some 16), .call (.k (.c (.fn fn_rotaref04_Twin [] []))) [(.t 15)], none⟩,
  ⟨(some 5), .mv (.t 16), none⟩]
abbrev o_rotaref04_twins_5 : List IOper := [⟨(some 17), .mv (.t 3), none⟩,
  ⟨(some 18), .mv (.t 5), none⟩,
  ⟨(some 19), .bsl 22 1 [(.sl none 0 0 false)] [(0, 1, (.t 18))], none⟩,
  ⟨(some 20), .app 22 1 24 (.t 17) (.t 19), none⟩,
  ⟨(some 3), .mv (.t 20), none⟩]
abbrev o_rotaref04_twins_6 : List IOper := [⟨(some 10), .mv (.t 4), none⟩,
  ⟨(some 11), .bin .add (.t 10) (.k (.c (.int .i64 1))), none⟩,
  ⟨(some 4), .mv (.t 11), none⟩]
def b_rotaref04_twins_7 : IC := (.seq (.seq (.ops o_rotaref04_twins_3) (.cond (.t 9) .skip (.exit 0))) (.seq (.block 1 (.seq (.ops o_rotaref04_twins_4) (.ops o_rotaref04_twins_5))) (.ops o_rotaref04_twins_6)))
abbrev o_rotaref04_twins_8 : List IOper := [⟨(some 21), .mv (.t 3), none⟩,
  ⟨(some 2), .mv (.t 21), none⟩]
def c_rotaref04_twins : IC := (.seq (.ops o_rotaref04_twins_0) (.seq (.ops o_rotaref04_twins_1) (.seq (.seq (.ops o_rotaref04_twins_2) (.block 0 (.loop b_rotaref04_twins_7))) (.seq (.ops o_rotaref04_twins_8) .ret))))
def i_rotaref04_twins : IFn := ⟨22, c_rotaref04_twins, [(2, none)]⟩

-- F 48 slices.Values[[][]byte,[]byte]$1: bads 0, calls []
abbrev o_slices_Values_byte_byte_1_0 : List IOper := [⟨(some 5), .ld none (.t 1), none⟩,
  ⟨(some 6), .len false (.t 5), none⟩,
  ⟨(some 7), .mv (.k (.c (.int .i64 0))), none⟩]
abbrev o_slices_Values_byte_byte_1_1 : List IOper := [⟨(some 8), .bin .lss (.t 7) (.t 6), none⟩]
abbrev o_slices_Values_byte_byte_1_2 : List IOper := [⟨(some 9), .iaS 1 (.t 5) (.t 7), none⟩,
  ⟨(some 10), .ld none (.t 9), none⟩,
  ⟨(some 4), .mv (.t 10), none⟩]
abbrev o_slices_Values_byte_byte_1_3 : List IOper := [⟨(some 11), .mv (.t 0), none⟩,
  ⟨(some 12), .mv (.t 4), none⟩,
  ⟨(some 13), .call (.t 11) [(.t 12)], none⟩,
  ⟨(some 14), .un .not (.t 13), none⟩]
abbrev o_slices_Values_byte_byte_1_4 : List IOper := [⟨(some 15), .bin .add (.t 7) (.k (.c (.int .i64 1))), none⟩,
  ⟨(some 7), .mv (.t 15), none⟩]
def b_slices_Values_byte_byte_1_5 : IC := (.seq (.ops o_slices_Values_byte_byte_1_1) (.seq (.cond (.t 8) .skip (.exit 0)) (.seq (.block 1 (.seq (.ops o_slices_Values_byte_byte_1_2) (.seq (.ops o_slices_Values_byte_byte_1_3) (.cond (.t 14) .ret .skip)))) (.ops o_slices_Values_byte_byte_1_4))))
def c_slices_Values_byte_byte_1 : IC := (.seq (.ops o_slices_Values_byte_byte_1_0) (.block 0 (.loop b_slices_Values_byte_byte_1_5)))
def i_slices_Values_byte_byte_1 : IFn := ⟨16, c_slices_Values_byte_byte_1, []⟩

def fs : List (Nat × IFn) := [(fn_rotalaw04_PortLast, i_rotalaw04_PortLast), (fn_rotalaw04_PortOrder, i_rotalaw04_PortOrder), (fn_rotalaw04_PortFresh, i_rotalaw04_PortFresh), (fn_rotalaw04_PortPlays, i_rotalaw04_PortPlays), (fn_rotalaw04_PortNames, i_rotalaw04_PortNames), (fn_rotalaw04_PortCopies, i_rotalaw04_PortCopies), (fn_rotalaw04_PortRefuses, i_rotalaw04_PortRefuses), (fn_rotalaw04_alive, i_rotalaw04_alive), (fn_rotalaw04_most, i_rotalaw04_most), (fn_port_New, i_port_New), (fn_port_Box_Take, i_port_Box_Take), (fn_port_Box_Len, i_port_Box_Len), (fn_port_Box_Send, i_port_Box_Send), (fn_rotalaw04_queue, i_rotalaw04_queue), (fn_port_Box_Recv, i_port_Box_Recv), (fn_port_Box_Arrive, i_port_Box_Arrive), (fn_rotalaw04_sample, i_rotalaw04_sample), (fn_rotaref04_New, i_rotaref04_New), (fn_rotalaw04_do, i_rotalaw04_do), (fn_rotalaw04_kept_still, i_rotalaw04_kept_still), (fn_port_Box_Copy, i_port_Box_Copy), (fn_rotalaw04_ask, i_rotalaw04_ask), (fn_rotalaw04_same, i_rotalaw04_same), (fn_port_kinds, i_port_kinds), (fn_port_Box_is, i_port_Box_is), (fn_rotaref02_Alone, i_rotaref02_Alone), (fn_rotaref04_Twin, i_rotaref04_Twin), (fn_rotaref04_Box_Send, i_rotaref04_Box_Send), (fn_rotaref04_Box_Take, i_rotaref04_Box_Take), (fn_rotalaw04_kept_keep, i_rotalaw04_kept_keep), (fn_rotaref04_Box_Arrive, i_rotaref04_Box_Arrive), (fn_rotaref04_Box_Recv, i_rotaref04_Box_Recv), (fn_port_Box_all, i_port_Box_all), (fn_slices_Clone_byte_byte, i_slices_Clone_byte_byte), (fn_port_kinds_1, i_port_kinds_1), (fn_port_kinds_2, i_port_kinds_2), (fn_slices_Delete_byte_byte, i_slices_Delete_byte_byte), (fn_port_kinds_3, i_port_kinds_3), (fn_port_kinds_4, i_port_kinds_4), (fn_port_kinds_5, i_port_kinds_5), (fn_port_kinds_6, i_port_kinds_6), (fn_rotaref04_Box_put, i_rotaref04_Box_put), (fn_rotaref04_Box_get, i_rotaref04_Box_get), (fn_slices_Values_byte_byte, i_slices_Values_byte_byte), (fn_rotaref04_twins, i_rotaref04_twins), (fn_slices_Values_byte_byte_1, i_slices_Values_byte_byte_1)]
def F : FuncId → Option Fun := funs fs
theorem e_rotalaw04_PortLast : F fn_rotalaw04_PortLast = some (.code ⟨109, c_rotalaw04_PortLast, [(4, none)]⟩) := by rfl
theorem e_rotalaw04_PortOrder : F fn_rotalaw04_PortOrder = some (.code ⟨231, c_rotalaw04_PortOrder, [(6, none)]⟩) := by rfl
theorem e_rotalaw04_PortFresh : F fn_rotalaw04_PortFresh = some (.code ⟨167, c_rotalaw04_PortFresh, [(6, none)]⟩) := by rfl
theorem e_rotalaw04_PortPlays : F fn_rotalaw04_PortPlays = some (.code ⟨77, c_rotalaw04_PortPlays, [(4, none)]⟩) := by rfl
theorem e_rotalaw04_PortNames : F fn_rotalaw04_PortNames = some (.code ⟨255, c_rotalaw04_PortNames, [(0, none)]⟩) := by rfl
theorem e_rotalaw04_PortCopies : F fn_rotalaw04_PortCopies = some (.code ⟨139, c_rotalaw04_PortCopies, [(6, none)]⟩) := by rfl
theorem e_rotalaw04_PortRefuses : F fn_rotalaw04_PortRefuses = some (.code ⟨104, c_rotalaw04_PortRefuses, [(6, none)]⟩) := by rfl
theorem e_rotalaw04_alive : F fn_rotalaw04_alive = some (.code ⟨54, c_rotalaw04_alive, [(0, none)]⟩) := by rfl
theorem e_rotalaw04_most : F fn_rotalaw04_most = some (.code ⟨10, c_rotalaw04_most, [(4, none)]⟩) := by rfl
theorem e_port_New : F fn_port_New = some (.code ⟨71, c_port_New, [(2, none), (3, none)]⟩) := by rfl
theorem e_port_Box_Take : F fn_port_Box_Take = some (.code ⟨18, c_port_Box_Take, [(2, none), (3, none)]⟩) := by rfl
theorem e_port_Box_Len : F fn_port_Box_Len = some (.code ⟨10, c_port_Box_Len, [(2, none)]⟩) := by rfl
theorem e_port_Box_Send : F fn_port_Box_Send = some (.code ⟨29, c_port_Box_Send, [(4, none)]⟩) := by rfl
theorem e_rotalaw04_queue : F fn_rotalaw04_queue = some (.code ⟨11, c_rotalaw04_queue, [(6, (some (some 6)))]⟩) := by rfl
theorem e_port_Box_Recv : F fn_port_Box_Recv = some (.code ⟨45, c_port_Box_Recv, [(4, none), (5, none)]⟩) := by rfl
theorem e_port_Box_Arrive : F fn_port_Box_Arrive = some (.code ⟨44, c_port_Box_Arrive, [(6, none)]⟩) := by rfl
theorem e_rotalaw04_sample : F fn_rotalaw04_sample = some (.code ⟨8, c_rotalaw04_sample, [(4, (some (some 6)))]⟩) := by rfl
theorem e_rotaref04_New : F fn_rotaref04_New = some (.code ⟨12, c_rotaref04_New, [(2, (some (some 9))), (3, none)]⟩) := by rfl
theorem e_rotalaw04_do : F fn_rotalaw04_do = some (.code ⟨202, c_rotalaw04_do, [(8, none), (9, none)]⟩) := by rfl
theorem e_rotalaw04_kept_still : F fn_rotalaw04_kept_still = some (.code ⟨30, c_rotalaw04_kept_still, [(2, none)]⟩) := by rfl
theorem e_port_Box_Copy : F fn_port_Box_Copy = some (.code ⟨28, c_port_Box_Copy, [(2, none)]⟩) := by rfl
theorem e_rotalaw04_ask : F fn_rotalaw04_ask = some (.code ⟨50, c_rotalaw04_ask, [(4, none), (5, none)]⟩) := by rfl
theorem e_rotalaw04_same : F fn_rotalaw04_same = some (.code ⟨42, c_rotalaw04_same, [(4, none)]⟩) := by rfl
theorem e_port_kinds : F fn_port_kinds = some (.code ⟨7, c_port_kinds, [(0, none)]⟩) := by rfl
theorem e_port_Box_is : F fn_port_Box_is = some (.code ⟨21, c_port_Box_is, [(4, none)]⟩) := by rfl
theorem e_rotaref02_Alone : F fn_rotaref02_Alone = some (.code ⟨71, c_rotaref02_Alone, [(2, none)]⟩) := by rfl
theorem e_rotaref04_Twin : F fn_rotaref04_Twin = some (.code ⟨7, c_rotaref04_Twin, [(2, none)]⟩) := by rfl
theorem e_rotaref04_Box_Send : F fn_rotaref04_Box_Send = some (.code ⟨22, c_rotaref04_Box_Send, [(4, none)]⟩) := by rfl
theorem e_rotaref04_Box_Take : F fn_rotaref04_Box_Take = some (.code ⟨14, c_rotaref04_Box_Take, [(2, none), (3, none)]⟩) := by rfl
theorem e_rotalaw04_kept_keep : F fn_rotalaw04_kept_keep = some (.code ⟨44, c_rotalaw04_kept_keep, []⟩) := by rfl
theorem e_rotaref04_Box_Arrive : F fn_rotaref04_Box_Arrive = some (.code ⟨37, c_rotaref04_Box_Arrive, [(6, none)]⟩) := by rfl
theorem e_rotaref04_Box_Recv : F fn_rotaref04_Box_Recv = some (.code ⟨63, c_rotaref04_Box_Recv, [(4, none), (5, none)]⟩) := by rfl
theorem e_port_Box_all : F fn_port_Box_all = some (.code ⟨8, c_port_Box_all, [(2, none)]⟩) := by rfl
theorem e_slices_Clone_byte_byte : F fn_slices_Clone_byte_byte = some (.code ⟨8, c_slices_Clone_byte_byte, [(2, none)]⟩) := by rfl
theorem e_port_kinds_1 : F fn_port_kinds_1 = some (.code ⟨27, c_port_kinds_1, [(4, none)]⟩) := by rfl
theorem e_port_kinds_2 : F fn_port_kinds_2 = some (.code ⟨26, c_port_kinds_2, [(2, none), (3, none)]⟩) := by rfl
theorem e_slices_Delete_byte_byte : F fn_slices_Delete_byte_byte = some (.code ⟨33, c_slices_Delete_byte_byte, [(6, none)]⟩) := by rfl
theorem e_port_kinds_3 : F fn_port_kinds_3 = some (.code ⟨12, c_port_kinds_3, [(4, none)]⟩) := by rfl
theorem e_port_kinds_4 : F fn_port_kinds_4 = some (.code ⟨11, c_port_kinds_4, [(4, none)]⟩) := by rfl
theorem e_port_kinds_5 : F fn_port_kinds_5 = some (.code ⟨10, c_port_kinds_5, [(2, (some none)), (3, (some none))]⟩) := by rfl
theorem e_port_kinds_6 : F fn_port_kinds_6 = some (.code ⟨25, c_port_kinds_6, [(4, none)]⟩) := by rfl
theorem e_rotaref04_Box_put : F fn_rotaref04_Box_put = some (.code ⟨40, c_rotaref04_Box_put, [(4, none)]⟩) := by rfl
theorem e_rotaref04_Box_get : F fn_rotaref04_Box_get = some (.code ⟨34, c_rotaref04_Box_get, [(2, none), (3, none)]⟩) := by rfl
theorem e_slices_Values_byte_byte : F fn_slices_Values_byte_byte = some (.code ⟨4, c_slices_Values_byte_byte, [(2, none)]⟩) := by rfl
theorem e_rotaref04_twins : F fn_rotaref04_twins = some (.code ⟨22, c_rotaref04_twins, [(2, none)]⟩) := by rfl
theorem e_slices_Values_byte_byte_1 : F fn_slices_Values_byte_byte_1 = some (.code ⟨16, c_slices_Values_byte_byte_1, []⟩) := by rfl
end Go.Proofs.Ytdekplnphbjgbaa.AM.D04
