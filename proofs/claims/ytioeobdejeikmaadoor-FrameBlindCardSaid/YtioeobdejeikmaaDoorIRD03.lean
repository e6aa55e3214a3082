/- The functions of these laws as the abstract machine's code, printed by a program of this claim's. -/
import Derived.Test.YtioeobdejeikmaaDoorA3
set_option linter.unusedVariables false
set_option linter.unusedSimpArgs false
set_option linter.unusedSectionVars false
namespace Go.Proofs.YtioeobdejeikmaaDoor.AM.D03
open Go Go.Proofs.YtioeobdejeikmaaDoor.AM
abbrev fn_rotalaw03_FrameWrites : Nat := 3
abbrev fn_rotalaw03_FrameApart : Nat := 4
abbrev fn_rotalaw03_FrameHears : Nat := 5
abbrev fn_rotalaw03_FrameBack : Nat := 6
abbrev fn_rotalaw03_FrameOwn : Nat := 7
abbrev fn_rotalaw03_FrameNames : Nat := 8
abbrev fn_rotalaw03_FrameBursts : Nat := 9
abbrev fn_rotalaw03_FrameBlind : Nat := 10
abbrev fn_rotaref03_Encode : Nat := 11
abbrev fn_frame_Encode : Nat := 12
abbrev fn_rotalaw03_alive : Nat := 13
abbrev fn_rotalaw03_right : Nat := 14
abbrev fn_frame_Decode : Nat := 15
abbrev fn_frame_Accept : Nat := 16
abbrev fn_rotaref03_Decode : Nat := 17
abbrev fn_rotaref03_Accept : Nat := 18
abbrev fn_frame_Corrupt : Nat := 19
abbrev fn_rotaref03_State : Nat := 20
abbrev fn_rotaref01_Sum : Nat := 21
abbrev fn_frame_state : Nat := 22
abbrev fn_sum_Sum : Nat := 23
abbrev fn_frame_read : Nat := 24
abbrev fn_frame_checked : Nat := 25
abbrev fn_sum_More : Nat := 26
abbrev fn_rotaref03_told : Nat := 27
abbrev fn_rotaref03_sealed : Nat := 28
abbrev fn_slices_Clone_byte_byte : Nat := 29
abbrev fn_frame_bits : Nat := 30
abbrev fn_rotaref01_More : Nat := 31
abbrev fn_frame_number : Nat := 32
abbrev fn_frame_bits_1 : Nat := 33
abbrev fn_rotaref01_steps : Nat := 34

-- F 3 rota/rotalaw03.FrameWrites: bads 0, calls [11, 12, 12]
abbrev o_rotalaw03_FrameWrites_0 : List IOper := [⟨(some 1), .box 27 (.t 0), none⟩,
  ⟨(some 2), .mv (.k (.c (.bool false))), none⟩]
abbrev o_rotalaw03_FrameWrites_1 : List IOper := [⟨(some 11), .ld (some 67) (.t 1), none⟩,
  ⟨(some 12), .call (.k (.c (.fn fn_rotaref03_Encode [] []))) [(.t 11)], none⟩,
  ⟨(some 10), .mv (.t 12), none⟩,
  ⟨(some 13), .ext (.t 10) 0, none⟩,
  ⟨(some 14), .ext (.t 10) 1, none⟩,
  ⟨(some 3), .mv (.t 13), none⟩,
  ⟨(some 4), .mv (.t 14), none⟩]
abbrev o_rotalaw03_FrameWrites_2 : List IOper := [⟨(some 16), .ld (some 67) (.t 1), none⟩,
  ⟨(some 17), .call (.k (.c (.fn fn_frame_Encode [] []))) [(.t 16)], none⟩,
  ⟨(some 15), .mv (.t 17), none⟩,
  ⟨(some 18), .ext (.t 15) 0, none⟩,
  ⟨(some 19), .ext (.t 15) 1, none⟩,
  ⟨(some 5), .mv (.t 18), none⟩,
  ⟨(some 6), .mv (.t 19), none⟩]
abbrev o_rotalaw03_FrameWrites_3 : List IOper := [⟨(some 21), .ld (some 67) (.t 1), none⟩,
  ⟨(some 22), .call (.k (.c (.fn fn_frame_Encode [] []))) [(.t 21)], none⟩,
  ⟨(some 20), .mv (.t 22), none⟩,
  ⟨(some 23), .ext (.t 20) 0, none⟩,
  ⟨(some 24), .ext (.t 20) 1, none⟩,
  ⟨(some 7), .mv (.t 23), none⟩,
  ⟨(some 8), .mv (.t 24), none⟩]
abbrev o_rotalaw03_FrameWrites_4 : List IOper := [⟨(some 25), .mv (.t 6), none⟩,
  ⟨(some 26), .mv (.t 4), none⟩,
  ⟨(some 27), .bin .neq (.t 25) (.t 26), none⟩,
  ⟨(some 28), .mv (.t 27), none⟩,
  ⟨(some 29), .mv (.t 8), some (28, false)⟩,
  ⟨(some 30), .mv (.t 6), some (28, false)⟩,
  ⟨(some 31), .bin .neq (.t 29) (.t 30), some (28, false)⟩,
  ⟨(some 32), .pick (.t 28) (.k (.c (.bool true))) (.t 31), none⟩,
  ⟨(some 33), .mv (.t 32), none⟩,
  ⟨(some 34), .mv (.t 5), some (33, false)⟩,
  ⟨(some 35), .b2s (.t 34), some (33, false)⟩,
  ⟨(some 36), .mv (.t 3), some (33, false)⟩,
  ⟨(some 37), .b2s (.t 36), some (33, false)⟩,
  ⟨(some 38), .bin .neq (.t 35) (.t 37), some (33, false)⟩,
  ⟨(some 39), .pick (.t 33) (.k (.c (.bool true))) (.t 38), none⟩]
abbrev o_rotalaw03_FrameWrites_5 : List IOper := [⟨(some 2), .mv (.k (.c (.bool false))), none⟩]
abbrev o_rotalaw03_FrameWrites_6 : List IOper := [⟨(some 40), .mv (.t 5), none⟩,
  ⟨(some 41), .len false (.t 40), none⟩,
  ⟨(some 42), .mv (.k (.c (.int .i64 0))), none⟩]
abbrev o_rotalaw03_FrameWrites_7 : List IOper := [⟨(some 43), .bin .lss (.t 42) (.t 41), none⟩]
abbrev o_rotalaw03_FrameWrites_8 : List IOper := [⟨(some 44), .mv (.t 42), none⟩,
  ⟨(some 9), .mv (.t 44), none⟩]
abbrev o_rotalaw03_FrameWrites_9 : List IOper := [⟨(some 45), .mv (.t 5), none⟩,
  ⟨(some 46), .mv (.t 9), none⟩,
  ⟨(some 47), .mv (.t 5), none⟩,
  ⟨(some 48), .mv (.t 9), none⟩,
  ⟨(some 49), .iaS 1 (.t 47) (.t 48), none⟩,
  ⟨(some 50), .ld none (.t 49), none⟩,
  ⟨(some 51), .bin .add (.t 50) (.k (.c (.int .u8 1))), none⟩,
  ⟨(some 52), .iaS 1 (.t 45) (.t 46), none⟩,
  ⟨none, .st 1 (.t 52) (.t 51), none⟩]
abbrev o_rotalaw03_FrameWrites_10 : List IOper := [⟨(some 53), .bin .add (.t 42) (.k (.c (.int .i64 1))), none⟩,
  ⟨(some 42), .mv (.t 53), none⟩]
def b_rotalaw03_FrameWrites_11 : IC := (.seq (.ops o_rotalaw03_FrameWrites_7) (.seq (.cond (.t 43) .skip (.exit 0)) (.seq (.block 1 (.seq (.ops o_rotalaw03_FrameWrites_8) (.ops o_rotalaw03_FrameWrites_9))) (.ops o_rotalaw03_FrameWrites_10))))
abbrev o_rotalaw03_FrameWrites_12 : List IOper := [⟨(some 54), .mv (.t 5), none⟩,
  ⟨(some 55), .bsl 5 1 [(.int .u8 0)] [(0, 1, (.k (.c (.int .u8 1))))], none⟩,
  ⟨(some 56), .app 5 1 1 (.t 54) (.t 55), none⟩,
  ⟨(some 5), .mv (.t 56), none⟩]
abbrev o_rotalaw03_FrameWrites_13 : List IOper := [⟨(some 57), .mv (.t 7), none⟩,
  ⟨(some 58), .b2s (.t 57), none⟩,
  ⟨(some 59), .mv (.t 3), none⟩,
  ⟨(some 60), .b2s (.t 59), none⟩,
  ⟨(some 61), .bin .eql (.t 58) (.t 60), none⟩,
  ⟨(some 62), .mv (.t 61), none⟩,
  ⟨(some 63), .mv (.t 5), some (62, true)⟩,
  ⟨(some 64), .len false (.t 63), some (62, true)⟩,
  ⟨(some 65), .mv (.t 3), some (62, true)⟩,
  ⟨(some 66), .len false (.t 65), some (62, true)⟩,
  ⟨(some 67), .bin .add (.t 66) (.k (.c (.int .i64 1))), some (62, true)⟩,
  ⟨(some 68), .bin .eql (.t 64) (.t 67), some (62, true)⟩,
  ⟨(some 69), .pick (.t 62) (.t 68) (.k (.c (.bool false))), none⟩,
  ⟨(some 2), .mv (.t 69), none⟩]
def c_rotalaw03_FrameWrites : IC := (.seq (.ops o_rotalaw03_FrameWrites_0) (.seq (.ops o_rotalaw03_FrameWrites_1) (.seq (.ops o_rotalaw03_FrameWrites_2) (.seq (.ops o_rotalaw03_FrameWrites_3) (.seq (.seq (.ops o_rotalaw03_FrameWrites_4) (.cond (.t 39) (.seq (.ops o_rotalaw03_FrameWrites_5) .ret) .skip)) (.seq (.seq (.ops o_rotalaw03_FrameWrites_6) (.block 0 (.loop b_rotalaw03_FrameWrites_11))) (.seq (.ops o_rotalaw03_FrameWrites_12) (.seq (.ops o_rotalaw03_FrameWrites_13) .ret))))))))
def i_rotalaw03_FrameWrites : IFn := ⟨70, c_rotalaw03_FrameWrites, [(2, none)]⟩

-- F 4 rota/rotalaw03.FrameApart: bads 0, calls [13, 14, 14, 12, 12]
abbrev o_rotalaw03_FrameApart_0 : List IOper := [⟨(some 2), .box 27 (.t 0), none⟩,
  ⟨(some 3), .box 27 (.t 1), none⟩,
  ⟨(some 4), .mv (.k (.c (.bool false))), none⟩]
abbrev o_rotalaw03_FrameApart_1 : List IOper := [⟨(some 10), .call (.k (.c (.fn fn_rotalaw03_alive [] []))) [], none⟩,
  ⟨(some 5), .mv (.t 10), none⟩]
abbrev o_rotalaw03_FrameApart_2 : List IOper := [⟨(some 13), .ld (some 67) (.t 3), none⟩,
  ⟨(some 11), .ld (some 67) (.t 2), none⟩,
  ⟨(some 12), .call (.k (.c (.fn fn_rotalaw03_right [] []))) [(.t 11)], none⟩,
  ⟨none, .same (some (some 67)) (.t 3) (.t 13), none⟩,
  ⟨(some 14), .call (.k (.c (.fn fn_rotalaw03_right [] []))) [(.t 13)], none⟩,
  ⟨none, .st 67 (.t 2) (.t 12), none⟩,
  ⟨none, .st 67 (.t 3) (.t 14), none⟩]
abbrev o_rotalaw03_FrameApart_3 : List IOper := [⟨(some 16), .ld (some 67) (.t 2), none⟩,
  ⟨(some 17), .call (.k (.c (.fn fn_frame_Encode [] []))) [(.t 16)], none⟩,
  ⟨(some 15), .mv (.t 17), none⟩,
  ⟨(some 18), .ext (.t 15) 0, none⟩,
  ⟨(some 19), .ext (.t 15) 1, none⟩,
  ⟨(some 6), .mv (.t 18), none⟩,
  ⟨(some 7), .mv (.t 19), none⟩]
abbrev o_rotalaw03_FrameApart_4 : List IOper := [⟨(some 21), .ld (some 67) (.t 3), none⟩,
  ⟨(some 22), .call (.k (.c (.fn fn_frame_Encode [] []))) [(.t 21)], none⟩,
  ⟨(some 20), .mv (.t 22), none⟩,
  ⟨(some 23), .ext (.t 20) 0, none⟩,
  ⟨(some 24), .ext (.t 20) 1, none⟩,
  ⟨(some 8), .mv (.t 23), none⟩,
  ⟨(some 9), .mv (.t 24), none⟩]
abbrev o_rotalaw03_FrameApart_5 : List IOper := [⟨(some 25), .mv (.t 5), none⟩,
  ⟨(some 26), .mv (.t 25), none⟩,
  ⟨(some 27), .mv (.t 7), some (26, true)⟩,
  ⟨(some 28), .bin .eql (.t 27) (.k (.c (.int .i64 0))), some (26, true)⟩,
  ⟨(some 29), .pick (.t 26) (.t 28) (.k (.c (.bool false))), none⟩,
  ⟨(some 30), .mv (.t 29), none⟩,
  ⟨(some 31), .mv (.t 9), some (30, true)⟩,
  ⟨(some 32), .bin .eql (.t 31) (.k (.c (.int .i64 0))), some (30, true)⟩,
  ⟨(some 33), .pick (.t 30) (.t 32) (.k (.c (.bool false))), none⟩,
  ⟨(some 34), .mv (.t 33), none⟩,
  ⟨(some 35), .mv (.t 6), some (34, true)⟩,
  ⟨(some 36), .b2s (.t 35), some (34, true)⟩,
  ⟨(some 37), .mv (.t 8), some (34, true)⟩,
  ⟨(some 38), .b2s (.t 37), some (34, true)⟩,
  ⟨(some 39), .bin .eql (.t 36) (.t 38), some (34, true)⟩,
  ⟨(some 40), .ld (some 67) (.t 2), some (34, true)⟩,
  ⟨(some 41), .ld (some 67) (.t 3), some (34, true)⟩,
  ⟨(some 42), .eqagg [.int, .int, .int, .int, .int, .int, .int, .int, .int, .int, .int, .int, .int, .int, .int, .int, .int, .int, .int, .int, .int, .int, .int, .int, .int, .int, .int, .int, .int, .int, .int, .int, .int, .int, .int, .int, .int, .int, .int, .int, .int, .int, .int, .int, .int, .int, .int, .int, .int, .int, .int, .int, .int, .int, .int, .int, .int, .int, .int, .int, .int, .int, .int, .int, .int, .int, .int] false (.t 40) (.t 41), some (34, true)⟩,
  ⟨(some 43), .eq .bool false (.t 39) (.t 42), some (34, true)⟩,
  ⟨(some 44), .pick (.t 34) (.t 43) (.k (.c (.bool false))), none⟩,
  ⟨(some 4), .mv (.t 44), none⟩]
def c_rotalaw03_FrameApart : IC := (.seq (.ops o_rotalaw03_FrameApart_0) (.seq (.ops o_rotalaw03_FrameApart_1) (.seq (.ops o_rotalaw03_FrameApart_2) (.seq (.ops o_rotalaw03_FrameApart_3) (.seq (.ops o_rotalaw03_FrameApart_4) (.seq (.ops o_rotalaw03_FrameApart_5) .ret))))))
def i_rotalaw03_FrameApart : IFn := ⟨45, c_rotalaw03_FrameApart, [(4, none)]⟩

-- F 5 rota/rotalaw03.FrameHears: bads 0, calls [15, 16, 17, 18]
abbrev o_rotalaw03_FrameHears_0 : List IOper := [⟨(some 5), .box 24 (.t 2), none⟩,
  ⟨(some 6), .mv (.k (.c (.bool false))), none⟩]
abbrev o_rotalaw03_FrameHears_1 : List IOper := [⟨(some 16), .mv (.t 0), none⟩,
  ⟨(some 17), .len false (.t 16), none⟩,
  ⟨(some 18), .bin .gtr (.t 17) (.k (.c (.int .i64 1000))), none⟩]
abbrev o_rotalaw03_FrameHears_2 : List IOper := [⟨(some 6), .mv (.k (.c (.bool true))), none⟩]
abbrev o_rotalaw03_FrameHears_3 : List IOper := [⟨(some 19), .bsl 5 0 [] [], none⟩,
  ⟨(some 20), .mv (.t 0), none⟩,
  ⟨(some 21), .app 5 1 1 (.t 19) (.t 20), none⟩,
  ⟨(some 22), .bsl 5 1 [(.int .u8 0)] [(0, 1, (.k (.c (.int .u8 7))))], none⟩,
  ⟨(some 23), .app 5 1 1 (.t 21) (.t 22), none⟩,
  ⟨(some 7), .mv (.t 23), none⟩]
abbrev o_rotalaw03_FrameHears_4 : List IOper := [⟨(some 25), .mv (.t 7), none⟩,
  ⟨(some 26), .mv (.t 0), none⟩,
  ⟨(some 27), .len false (.t 26), none⟩,
  ⟨(some 28), .slS 1 (.t 25) none (some (.t 27)) none, none⟩,
  ⟨(some 29), .call (.k (.c (.fn fn_frame_Decode [] []))) [(.t 28)], none⟩,
  ⟨(some 24), .mv (.t 29), none⟩,
  ⟨(some 30), .ext (.t 24) 0, none⟩,
  ⟨(some 31), .ext (.t 24) 1, none⟩,
  ⟨(some 8), .new 27 (.agg (List.replicate 2 (.int .i64 0) ++ [(.int .u16 0)] ++ List.replicate 64 (.int .u8 0))), none⟩,
  ⟨none, .st 67 (.t 8) (.t 30), none⟩,
  ⟨(some 9), .mv (.t 31), none⟩]
abbrev o_rotalaw03_FrameHears_5 : List IOper := [⟨(some 33), .mv (.t 7), none⟩,
  ⟨(some 34), .mv (.t 0), none⟩,
  ⟨(some 35), .len false (.t 34), none⟩,
  ⟨(some 36), .slS 1 (.t 33) none (some (.t 35)) none, none⟩,
  ⟨(some 37), .mv (.t 1), none⟩,
  ⟨(some 38), .ld (some 2) (.t 5), none⟩,
  ⟨(some 39), .call (.k (.c (.fn fn_frame_Accept [] []))) [(.t 36), (.t 37), (.t 38)], none⟩,
  ⟨(some 32), .mv (.t 39), none⟩,
  ⟨(some 40), .ext (.t 32) 0, none⟩,
  ⟨(some 41), .ext (.t 32) 1, none⟩,
  ⟨(some 10), .new 27 (.agg (List.replicate 2 (.int .i64 0) ++ [(.int .u16 0)] ++ List.replicate 64 (.int .u8 0))), none⟩,
  ⟨none, .st 67 (.t 10) (.t 40), none⟩,
  ⟨(some 11), .mv (.t 41), none⟩]
abbrev o_rotalaw03_FrameHears_6 : List IOper := [⟨(some 43), .mv (.t 0), none⟩,
  ⟨(some 44), .call (.k (.c (.fn fn_rotaref03_Decode [] []))) [(.t 43)], none⟩,
  ⟨(some 42), .mv (.t 44), none⟩,
  ⟨(some 45), .ext (.t 42) 0, none⟩,
  ⟨(some 46), .ext (.t 42) 1, none⟩,
  ⟨(some 12), .new 27 (.agg (List.replicate 2 (.int .i64 0) ++ [(.int .u16 0)] ++ List.replicate 64 (.int .u8 0))), none⟩,
  ⟨none, .st 67 (.t 12) (.t 45), none⟩,
  ⟨(some 13), .mv (.t 46), none⟩]
abbrev o_rotalaw03_FrameHears_7 : List IOper := [⟨(some 48), .mv (.t 0), none⟩,
  ⟨(some 49), .mv (.t 1), none⟩,
  ⟨(some 50), .ld (some 2) (.t 5), none⟩,
  ⟨(some 51), .call (.k (.c (.fn fn_rotaref03_Accept [] []))) [(.t 48), (.t 49), (.t 50)], none⟩,
  ⟨(some 47), .mv (.t 51), none⟩,
  ⟨(some 52), .ext (.t 47) 0, none⟩,
  ⟨(some 53), .ext (.t 47) 1, none⟩,
  ⟨(some 14), .new 27 (.agg (List.replicate 2 (.int .i64 0) ++ [(.int .u16 0)] ++ List.replicate 64 (.int .u8 0))), none⟩,
  ⟨none, .st 67 (.t 14) (.t 52), none⟩,
  ⟨(some 15), .mv (.t 53), none⟩]
abbrev o_rotalaw03_FrameHears_8 : List IOper := [⟨(some 54), .ld (some 67) (.t 8), none⟩,
  ⟨(some 55), .ld (some 67) (.t 12), none⟩,
  ⟨(some 56), .eqagg [.int, .int, .int, .int, .int, .int, .int, .int, .int, .int, .int, .int, .int, .int, .int, .int, .int, .int, .int, .int, .int, .int, .int, .int, .int, .int, .int, .int, .int, .int, .int, .int, .int, .int, .int, .int, .int, .int, .int, .int, .int, .int, .int, .int, .int, .int, .int, .int, .int, .int, .int, .int, .int, .int, .int, .int, .int, .int, .int, .int, .int, .int, .int, .int, .int, .int, .int] false (.t 54) (.t 55), none⟩,
  ⟨(some 57), .mv (.t 56), none⟩,
  ⟨(some 58), .mv (.t 9), some (57, true)⟩,
  ⟨(some 59), .mv (.t 13), some (57, true)⟩,
  ⟨(some 60), .bin .eql (.t 58) (.t 59), some (57, true)⟩,
  ⟨(some 61), .pick (.t 57) (.t 60) (.k (.c (.bool false))), none⟩,
  ⟨(some 62), .mv (.t 61), none⟩,
  ⟨(some 63), .ld (some 67) (.t 10), some (62, true)⟩,
  ⟨(some 64), .ld (some 67) (.t 14), some (62, true)⟩,
  ⟨(some 65), .eqagg [.int, .int, .int, .int, .int, .int, .int, .int, .int, .int, .int, .int, .int, .int, .int, .int, .int, .int, .int, .int, .int, .int, .int, .int, .int, .int, .int, .int, .int, .int, .int, .int, .int, .int, .int, .int, .int, .int, .int, .int, .int, .int, .int, .int, .int, .int, .int, .int, .int, .int, .int, .int, .int, .int, .int, .int, .int, .int, .int, .int, .int, .int, .int, .int, .int, .int, .int] false (.t 63) (.t 64), some (62, true)⟩,
  ⟨(some 66), .pick (.t 62) (.t 65) (.k (.c (.bool false))), none⟩,
  ⟨(some 67), .mv (.t 66), none⟩,
  ⟨(some 68), .mv (.t 11), some (67, true)⟩,
  ⟨(some 69), .mv (.t 15), some (67, true)⟩,
  ⟨(some 70), .bin .eql (.t 68) (.t 69), some (67, true)⟩,
  ⟨(some 71), .pick (.t 67) (.t 70) (.k (.c (.bool false))), none⟩,
  ⟨(some 72), .mv (.t 71), none⟩,
  ⟨(some 73), .mv (.t 7), some (72, true)⟩,
  ⟨(some 74), .b2s (.t 73), some (72, true)⟩,
  ⟨(some 75), .mv (.t 0), some (72, true)⟩,
  ⟨(some 76), .b2s (.t 75), some (72, true)⟩,
  ⟨(some 77), .bin .add (.t 76) (.k (.c (.str ⟨#[7]⟩))), some (72, true)⟩,
  ⟨(some 78), .bin .eql (.t 74) (.t 77), some (72, true)⟩,
  ⟨(some 79), .pick (.t 72) (.t 78) (.k (.c (.bool false))), none⟩,
  ⟨(some 6), .mv (.t 79), none⟩]
def c_rotalaw03_FrameHears : IC := (.seq (.ops o_rotalaw03_FrameHears_0) (.seq (.seq (.ops o_rotalaw03_FrameHears_1) (.cond (.t 18) (.seq (.ops o_rotalaw03_FrameHears_2) .ret) .skip)) (.seq (.ops o_rotalaw03_FrameHears_3) (.seq (.ops o_rotalaw03_FrameHears_4) (.seq (.ops o_rotalaw03_FrameHears_5) (.seq (.ops o_rotalaw03_FrameHears_6) (.seq (.ops o_rotalaw03_FrameHears_7) (.seq (.ops o_rotalaw03_FrameHears_8) .ret))))))))
def i_rotalaw03_FrameHears : IFn := ⟨80, c_rotalaw03_FrameHears, [(6, none)]⟩

-- F 6 rota/rotalaw03.FrameBack: bads 0, calls [13, 14, 12, 15, 16, 16, 16, 16]
abbrev o_rotalaw03_FrameBack_0 : List IOper := [⟨(some 3), .box 27 (.t 0), none⟩,
  ⟨(some 5), .box 24 (.t 2), none⟩,
  ⟨(some 6), .mv (.k (.c (.bool false))), none⟩]
abbrev o_rotalaw03_FrameBack_1 : List IOper := [⟨(some 22), .call (.k (.c (.fn fn_rotalaw03_alive [] []))) [], none⟩,
  ⟨(some 7), .mv (.t 22), none⟩]
abbrev o_rotalaw03_FrameBack_2 : List IOper := [⟨(some 23), .ld (some 67) (.t 3), none⟩,
  ⟨(some 24), .call (.k (.c (.fn fn_rotalaw03_right [] []))) [(.t 23)], none⟩,
  ⟨none, .st 67 (.t 3) (.t 24), none⟩]
abbrev o_rotalaw03_FrameBack_3 : List IOper := [⟨(some 26), .ld (some 67) (.t 3), none⟩,
  ⟨(some 27), .call (.k (.c (.fn fn_frame_Encode [] []))) [(.t 26)], none⟩,
  ⟨(some 25), .mv (.t 27), none⟩,
  ⟨(some 28), .ext (.t 25) 0, none⟩,
  ⟨(some 29), .ext (.t 25) 1, none⟩,
  ⟨(some 8), .mv (.t 28), none⟩,
  ⟨(some 9), .mv (.t 29), none⟩]
abbrev o_rotalaw03_FrameBack_4 : List IOper := [⟨(some 31), .mv (.t 8), none⟩,
  ⟨(some 32), .call (.k (.c (.fn fn_frame_Decode [] []))) [(.t 31)], none⟩,
  ⟨(some 30), .mv (.t 32), none⟩,
  ⟨(some 33), .ext (.t 30) 0, none⟩,
  ⟨(some 34), .ext (.t 30) 1, none⟩,
  ⟨(some 10), .new 27 (.agg (List.replicate 2 (.int .i64 0) ++ [(.int .u16 0)] ++ List.replicate 64 (.int .u8 0))), none⟩,
  ⟨none, .st 67 (.t 10) (.t 33), none⟩,
  ⟨(some 11), .mv (.t 34), none⟩]
abbrev o_rotalaw03_FrameBack_5 : List IOper := [⟨(some 36), .mv (.t 8), none⟩,
  ⟨(some 37), .fa 0 (.t 3), none⟩,
  ⟨(some 38), .ld none (.t 37), none⟩,
  ⟨(some 39), .fa 1 (.t 3), none⟩,
  ⟨(some 40), .ld (some 2) (.t 39), none⟩,
  ⟨(some 41), .call (.k (.c (.fn fn_frame_Accept [] []))) [(.t 36), (.t 38), (.t 40)], none⟩,
  ⟨(some 35), .mv (.t 41), none⟩,
  ⟨(some 42), .ext (.t 35) 0, none⟩,
  ⟨(some 43), .ext (.t 35) 1, none⟩,
  ⟨(some 12), .new 27 (.agg (List.replicate 2 (.int .i64 0) ++ [(.int .u16 0)] ++ List.replicate 64 (.int .u8 0))), none⟩,
  ⟨none, .st 67 (.t 12) (.t 42), none⟩,
  ⟨(some 13), .mv (.t 43), none⟩]
abbrev o_rotalaw03_FrameBack_6 : List IOper := [⟨(some 44), .mv (.t 9), none⟩,
  ⟨(some 45), .bin .neq (.t 44) (.k (.c (.int .i64 0))), none⟩,
  ⟨(some 46), .mv (.t 45), none⟩,
  ⟨(some 47), .mv (.t 11), some (46, false)⟩,
  ⟨(some 48), .bin .neq (.t 47) (.k (.c (.int .i64 0))), some (46, false)⟩,
  ⟨(some 49), .pick (.t 46) (.k (.c (.bool true))) (.t 48), none⟩,
  ⟨(some 50), .mv (.t 49), none⟩,
  ⟨(some 51), .mv (.t 13), some (50, false)⟩,
  ⟨(some 52), .bin .neq (.t 51) (.k (.c (.int .i64 0))), some (50, false)⟩,
  ⟨(some 53), .pick (.t 50) (.k (.c (.bool true))) (.t 52), none⟩,
  ⟨(some 54), .mv (.t 53), none⟩,
  ⟨(some 55), .ld (some 67) (.t 10), some (54, false)⟩,
  ⟨(some 56), .ld (some 67) (.t 3), some (54, false)⟩,
  ⟨(some 57), .eqagg [.int, .int, .int, .int, .int, .int, .int, .int, .int, .int, .int, .int, .int, .int, .int, .int, .int, .int, .int, .int, .int, .int, .int, .int, .int, .int, .int, .int, .int, .int, .int, .int, .int, .int, .int, .int, .int, .int, .int, .int, .int, .int, .int, .int, .int, .int, .int, .int, .int, .int, .int, .int, .int, .int, .int, .int, .int, .int, .int, .int, .int, .int, .int, .int, .int, .int, .int] true (.t 55) (.t 56), some (54, false)⟩,
  ⟨(some 58), .pick (.t 54) (.k (.c (.bool true))) (.t 57), none⟩,
  ⟨(some 59), .mv (.t 58), none⟩,
  ⟨(some 60), .ld (some 67) (.t 12), some (59, false)⟩,
  ⟨(some 61), .ld (some 67) (.t 3), some (59, false)⟩,
  ⟨(some 62), .eqagg [.int, .int, .int, .int, .int, .int, .int, .int, .int, .int, .int, .int, .int, .int, .int, .int, .int, .int, .int, .int, .int, .int, .int, .int, .int, .int, .int, .int, .int, .int, .int, .int, .int, .int, .int, .int, .int, .int, .int, .int, .int, .int, .int, .int, .int, .int, .int, .int, .int, .int, .int, .int, .int, .int, .int, .int, .int, .int, .int, .int, .int, .int, .int, .int, .int, .int, .int] true (.t 60) (.t 61), some (59, false)⟩,
  ⟨(some 63), .pick (.t 59) (.k (.c (.bool true))) (.t 62), none⟩,
  ⟨(some 64), .mv (.t 63), none⟩,
  ⟨(some 65), .mv (.t 8), some (64, false)⟩,
  ⟨(some 66), .len false (.t 65), some (64, false)⟩,
  ⟨(some 67), .bin .neq (.t 66) (.k (.c (.int .i64 75))), some (64, false)⟩,
  ⟨(some 68), .pick (.t 64) (.k (.c (.bool true))) (.t 67), none⟩]
abbrev o_rotalaw03_FrameBack_7 : List IOper := [⟨(some 6), .mv (.k (.c (.bool false))), none⟩]
abbrev o_rotalaw03_FrameBack_8 : List IOper := [⟨(some 70), .mv (.t 8), none⟩,
  ⟨(some 71), .mv (.t 1), none⟩,
  ⟨(some 72), .ld (some 2) (.t 5), none⟩,
  ⟨(some 73), .call (.k (.c (.fn fn_frame_Accept [] []))) [(.t 70), (.t 71), (.t 72)], none⟩,
  ⟨(some 69), .mv (.t 73), none⟩,
  ⟨(some 74), .ext (.t 69) 0, none⟩,
  ⟨(some 75), .ext (.t 69) 1, none⟩,
  ⟨(some 14), .new 27 (.agg (List.replicate 2 (.int .i64 0) ++ [(.int .u16 0)] ++ List.replicate 64 (.int .u8 0))), none⟩,
  ⟨none, .st 67 (.t 14) (.t 74), none⟩,
  ⟨(some 15), .mv (.t 75), none⟩]
abbrev o_rotalaw03_FrameBack_9 : List IOper := [⟨(some 77), .mv (.t 8), none⟩,
  ⟨(some 78), .mv (.t 1), none⟩,
  ⟨(some 79), .fa 1 (.t 3), none⟩,
  ⟨(some 80), .ld (some 2) (.t 79), none⟩,
  ⟨(some 81), .call (.k (.c (.fn fn_frame_Accept [] []))) [(.t 77), (.t 78), (.t 80)], none⟩,
  ⟨(some 76), .mv (.t 81), none⟩,
  ⟨(some 82), .ext (.t 76) 0, none⟩,
  ⟨(some 83), .ext (.t 76) 1, none⟩,
  ⟨(some 16), .new 27 (.agg (List.replicate 2 (.int .i64 0) ++ [(.int .u16 0)] ++ List.replicate 64 (.int .u8 0))), none⟩,
  ⟨none, .st 67 (.t 16) (.t 82), none⟩,
  ⟨(some 17), .mv (.t 83), none⟩]
abbrev o_rotalaw03_FrameBack_10 : List IOper := [⟨(some 85), .mv (.t 8), none⟩,
  ⟨(some 86), .fa 0 (.t 3), none⟩,
  ⟨(some 87), .ld none (.t 86), none⟩,
  ⟨(some 88), .ld (some 2) (.t 5), none⟩,
  ⟨(some 89), .call (.k (.c (.fn fn_frame_Accept [] []))) [(.t 85), (.t 87), (.t 88)], none⟩,
  ⟨(some 84), .mv (.t 89), none⟩,
  ⟨(some 90), .ext (.t 84) 0, none⟩,
  ⟨(some 91), .ext (.t 84) 1, none⟩,
  ⟨(some 18), .new 27 (.agg (List.replicate 2 (.int .i64 0) ++ [(.int .u16 0)] ++ List.replicate 64 (.int .u8 0))), none⟩,
  ⟨none, .st 67 (.t 18) (.t 90), none⟩,
  ⟨(some 19), .mv (.t 91), none⟩]
abbrev o_rotalaw03_FrameBack_11 : List IOper := [⟨(some 92), .mv (.t 1), none⟩,
  ⟨(some 93), .fa 0 (.t 3), none⟩,
  ⟨(some 94), .ld none (.t 93), none⟩,
  ⟨(some 95), .bin .eql (.t 92) (.t 94), none⟩,
  ⟨(some 96), .mv (.t 95), none⟩,
  ⟨(some 97), .ld (some 2) (.t 5), some (96, true)⟩,
  ⟨(some 98), .fa 1 (.t 3), some (96, true)⟩,
  ⟨(some 99), .ld (some 2) (.t 98), some (96, true)⟩,
  ⟨(some 100), .eqagg [.int, .int] false (.t 97) (.t 99), some (96, true)⟩,
  ⟨(some 101), .pick (.t 96) (.t 100) (.k (.c (.bool false))), none⟩]
abbrev o_rotalaw03_FrameBack_12 : List IOper := [⟨(some 102), .mv (.t 7), none⟩,
  ⟨(some 103), .mv (.t 102), none⟩,
  ⟨(some 104), .mv (.t 15), some (103, true)⟩,
  ⟨(some 105), .bin .eql (.t 104) (.k (.c (.int .i64 0))), some (103, true)⟩,
  ⟨(some 106), .pick (.t 103) (.t 105) (.k (.c (.bool false))), none⟩,
  ⟨(some 107), .mv (.t 106), none⟩,
  ⟨(some 108), .ld (some 67) (.t 14), some (107, true)⟩,
  ⟨(some 109), .ld (some 67) (.t 3), some (107, true)⟩,
  ⟨(some 110), .eqagg [.int, .int, .int, .int, .int, .int, .int, .int, .int, .int, .int, .int, .int, .int, .int, .int, .int, .int, .int, .int, .int, .int, .int, .int, .int, .int, .int, .int, .int, .int, .int, .int, .int, .int, .int, .int, .int, .int, .int, .int, .int, .int, .int, .int, .int, .int, .int, .int, .int, .int, .int, .int, .int, .int, .int, .int, .int, .int, .int, .int, .int, .int, .int, .int, .int, .int, .int] false (.t 108) (.t 109), some (107, true)⟩,
  ⟨(some 111), .pick (.t 107) (.t 110) (.k (.c (.bool false))), none⟩,
  ⟨(some 6), .mv (.t 111), none⟩]
abbrev o_rotalaw03_FrameBack_13 : List IOper := [⟨(some 112), .build (List.replicate 2 (.int .i64 0) ++ [(.int .u16 0)] ++ List.replicate 64 (.int .u8 0)) [], none⟩,
  ⟨(some 113), .build (List.replicate 2 (.int .i64 0) ++ [(.int .u16 0)] ++ List.replicate 64 (.int .u8 0)) [], none⟩,
  ⟨(some 20), .new 27 (.agg (List.replicate 2 (.int .i64 0) ++ [(.int .u16 0)] ++ List.replicate 64 (.int .u8 0))), none⟩,
  ⟨(some 21), .new 27 (.agg (List.replicate 2 (.int .i64 0) ++ [(.int .u16 0)] ++ List.replicate 64 (.int .u8 0))), none⟩,
  ⟨none, .st 67 (.t 20) (.t 112), none⟩,
  ⟨none, .st 67 (.t 21) (.t 113), none⟩]
abbrev o_rotalaw03_FrameBack_14 : List IOper := [⟨(some 114), .mv (.t 1), none⟩,
  ⟨(some 115), .fa 0 (.t 3), none⟩,
  ⟨(some 116), .ld none (.t 115), none⟩,
  ⟨(some 117), .bin .eql (.t 114) (.t 116), none⟩]
abbrev o_rotalaw03_FrameBack_15 : List IOper := [⟨(some 118), .ld (some 67) (.t 3), none⟩,
  ⟨none, .st 67 (.t 20) (.t 118), none⟩]
abbrev o_rotalaw03_FrameBack_16 : List IOper := [⟨(some 119), .ld (some 2) (.t 5), none⟩,
  ⟨(some 120), .fa 1 (.t 3), none⟩,
  ⟨(some 121), .ld (some 2) (.t 120), none⟩,
  ⟨(some 122), .eqagg [.int, .int] false (.t 119) (.t 121), none⟩]
abbrev o_rotalaw03_FrameBack_17 : List IOper := [⟨(some 123), .ld (some 67) (.t 3), none⟩,
  ⟨none, .st 67 (.t 21) (.t 123), none⟩]
abbrev o_rotalaw03_FrameBack_18 : List IOper := [⟨(some 124), .mv (.t 7), none⟩,
  ⟨(some 125), .mv (.t 124), none⟩,
  ⟨(some 126), .mv (.t 15), some (125, true)⟩,
  ⟨(some 127), .bin .neq (.t 126) (.k (.c (.int .i64 0))), some (125, true)⟩,
  ⟨(some 128), .pick (.t 125) (.t 127) (.k (.c (.bool false))), none⟩,
  ⟨(some 129), .mv (.t 128), none⟩,
  ⟨(some 130), .ld (some 67) (.t 14), some (129, true)⟩,
  ⟨(some 131), .build (List.replicate 2 (.int .i64 0) ++ [(.int .u16 0)] ++ List.replicate 64 (.int .u8 0)) [], some (129, true)⟩,
  ⟨(some 132), .eqagg [.int, .int, .int, .int, .int, .int, .int, .int, .int, .int, .int, .int, .int, .int, .int, .int, .int, .int, .int, .int, .int, .int, .int, .int, .int, .int, .int, .int, .int, .int, .int, .int, .int, .int, .int, .int, .int, .int, .int, .int, .int, .int, .int, .int, .int, .int, .int, .int, .int, .int, .int, .int, .int, .int, .int, .int, .int, .int, .int, .int, .int, .int, .int, .int, .int, .int, .int] false (.t 130) (.t 131), some (129, true)⟩,
  ⟨(some 133), .pick (.t 129) (.t 132) (.k (.c (.bool false))), none⟩,
  ⟨(some 134), .mv (.t 133), none⟩,
  ⟨(some 135), .mv (.t 17), some (134, true)⟩,
  ⟨(some 136), .bin .eql (.t 135) (.k (.c (.int .i64 0))), some (134, true)⟩,
  ⟨(some 137), .mv (.t 1), some (134, true)⟩,
  ⟨(some 138), .fa 0 (.t 3), some (134, true)⟩,
  ⟨(some 139), .ld none (.t 138), some (134, true)⟩,
  ⟨(some 140), .bin .eql (.t 137) (.t 139), some (134, true)⟩,
  ⟨(some 141), .eq .bool false (.t 136) (.t 140), some (134, true)⟩,
  ⟨(some 142), .pick (.t 134) (.t 141) (.k (.c (.bool false))), none⟩,
  ⟨(some 143), .mv (.t 142), none⟩,
  ⟨(some 144), .mv (.t 19), some (143, true)⟩,
  ⟨(some 145), .bin .eql (.t 144) (.k (.c (.int .i64 0))), some (143, true)⟩,
  ⟨(some 146), .ld (some 2) (.t 5), some (143, true)⟩,
  ⟨(some 147), .fa 1 (.t 3), some (143, true)⟩,
  ⟨(some 148), .ld (some 2) (.t 147), some (143, true)⟩,
  ⟨(some 149), .eqagg [.int, .int] false (.t 146) (.t 148), some (143, true)⟩,
  ⟨(some 150), .eq .bool false (.t 145) (.t 149), some (143, true)⟩,
  ⟨(some 151), .pick (.t 143) (.t 150) (.k (.c (.bool false))), none⟩,
  ⟨(some 152), .mv (.t 151), none⟩,
  ⟨(some 153), .ld (some 67) (.t 16), some (152, true)⟩,
  ⟨(some 154), .ld (some 67) (.t 20), some (152, true)⟩,
  ⟨(some 155), .eqagg [.int, .int, .int, .int, .int, .int, .int, .int, .int, .int, .int, .int, .int, .int, .int, .int, .int, .int, .int, .int, .int, .int, .int, .int, .int, .int, .int, .int, .int, .int, .int, .int, .int, .int, .int, .int, .int, .int, .int, .int, .int, .int, .int, .int, .int, .int, .int, .int, .int, .int, .int, .int, .int, .int, .int, .int, .int, .int, .int, .int, .int, .int, .int, .int, .int, .int, .int] false (.t 153) (.t 154), some (152, true)⟩,
  ⟨(some 156), .pick (.t 152) (.t 155) (.k (.c (.bool false))), none⟩,
  ⟨(some 157), .mv (.t 156), none⟩,
  ⟨(some 158), .ld (some 67) (.t 18), some (157, true)⟩,
  ⟨(some 159), .ld (some 67) (.t 21), some (157, true)⟩,
  ⟨(some 160), .eqagg [.int, .int, .int, .int, .int, .int, .int, .int, .int, .int, .int, .int, .int, .int, .int, .int, .int, .int, .int, .int, .int, .int, .int, .int, .int, .int, .int, .int, .int, .int, .int, .int, .int, .int, .int, .int, .int, .int, .int, .int, .int, .int, .int, .int, .int, .int, .int, .int, .int, .int, .int, .int, .int, .int, .int, .int, .int, .int, .int, .int, .int, .int, .int, .int, .int, .int, .int] false (.t 158) (.t 159), some (157, true)⟩,
  ⟨(some 161), .pick (.t 157) (.t 160) (.k (.c (.bool false))), none⟩,
  ⟨(some 6), .mv (.t 161), none⟩]
def c_rotalaw03_FrameBack : IC := (.seq (.ops o_rotalaw03_FrameBack_0) (.seq (.ops o_rotalaw03_FrameBack_1) (.seq (.ops o_rotalaw03_FrameBack_2) (.seq (.ops o_rotalaw03_FrameBack_3) (.seq (.ops o_rotalaw03_FrameBack_4) (.seq (.ops o_rotalaw03_FrameBack_5) (.seq (.seq (.ops o_rotalaw03_FrameBack_6) (.cond (.t 68) (.seq (.ops o_rotalaw03_FrameBack_7) .ret) .skip)) (.seq (.ops o_rotalaw03_FrameBack_8) (.seq (.ops o_rotalaw03_FrameBack_9) (.seq (.ops o_rotalaw03_FrameBack_10) (.seq (.seq (.ops o_rotalaw03_FrameBack_11) (.cond (.t 101) (.seq (.ops o_rotalaw03_FrameBack_12) .ret) .skip)) (.seq (.ops o_rotalaw03_FrameBack_13) (.seq (.seq (.ops o_rotalaw03_FrameBack_14) (.cond (.t 117) (.ops o_rotalaw03_FrameBack_15) .skip)) (.seq (.seq (.ops o_rotalaw03_FrameBack_16) (.cond (.t 122) (.ops o_rotalaw03_FrameBack_17) .skip)) (.seq (.ops o_rotalaw03_FrameBack_18) .ret)))))))))))))))
def i_rotalaw03_FrameBack : IFn := ⟨162, c_rotalaw03_FrameBack, [(6, none)]⟩

-- F 7 rota/rotalaw03.FrameOwn: bads 0, calls [13, 15, 16, 16]
abbrev o_rotalaw03_FrameOwn_0 : List IOper := [⟨(some 5), .box 24 (.t 2), none⟩,
  ⟨(some 6), .mv (.k (.c (.bool false))), none⟩]
abbrev o_rotalaw03_FrameOwn_1 : List IOper := [⟨(some 14), .call (.k (.c (.fn fn_rotalaw03_alive [] []))) [], none⟩,
  ⟨(some 7), .mv (.t 14), none⟩]
abbrev o_rotalaw03_FrameOwn_2 : List IOper := [⟨(some 15), .mv (.t 0), none⟩,
  ⟨(some 16), .len false (.t 15), none⟩,
  ⟨(some 17), .bin .gtr (.t 16) (.k (.c (.int .i64 1000))), none⟩,
  ⟨(some 18), .mv (.t 17), none⟩,
  ⟨(some 19), .mv (.t 7), some (18, false)⟩,
  ⟨(some 20), .un .not (.t 19), some (18, false)⟩,
  ⟨(some 21), .pick (.t 18) (.k (.c (.bool true))) (.t 20), none⟩]
abbrev o_rotalaw03_FrameOwn_3 : List IOper := [⟨(some 22), .mv (.t 7), none⟩,
  ⟨(some 6), .mv (.t 22), none⟩]
abbrev o_rotalaw03_FrameOwn_4 : List IOper := [⟨(some 24), .mv (.t 0), none⟩,
  ⟨(some 25), .call (.k (.c (.fn fn_frame_Decode [] []))) [(.t 24)], none⟩,
  ⟨(some 23), .mv (.t 25), none⟩,
  ⟨(some 26), .ext (.t 23) 0, none⟩,
  ⟨(some 27), .ext (.t 23) 1, none⟩,
  ⟨(some 8), .new 27 (.agg (List.replicate 2 (.int .i64 0) ++ [(.int .u16 0)] ++ List.replicate 64 (.int .u8 0))), none⟩,
  ⟨none, .st 67 (.t 8) (.t 26), none⟩,
  ⟨(some 9), .mv (.t 27), none⟩]
abbrev o_rotalaw03_FrameOwn_5 : List IOper := [⟨(some 28), .mv (.t 9), none⟩,
  ⟨(some 29), .bin .eql (.t 28) (.k (.c (.int .i64 0))), none⟩]
abbrev o_rotalaw03_FrameOwn_6 : List IOper := [⟨(some 31), .mv (.t 0), none⟩,
  ⟨(some 32), .fa 0 (.t 8), none⟩,
  ⟨(some 33), .ld none (.t 32), none⟩,
  ⟨(some 34), .fa 1 (.t 8), none⟩,
  ⟨(some 35), .ld (some 2) (.t 34), none⟩,
  ⟨(some 36), .call (.k (.c (.fn fn_frame_Accept [] []))) [(.t 31), (.t 33), (.t 35)], none⟩,
  ⟨(some 30), .mv (.t 36), none⟩,
  ⟨(some 37), .ext (.t 30) 0, none⟩,
  ⟨(some 38), .ext (.t 30) 1, none⟩,
  ⟨(some 10), .new 27 (.agg (List.replicate 2 (.int .i64 0) ++ [(.int .u16 0)] ++ List.replicate 64 (.int .u8 0))), none⟩,
  ⟨none, .st 67 (.t 10) (.t 37), none⟩,
  ⟨(some 11), .mv (.t 38), none⟩]
abbrev o_rotalaw03_FrameOwn_7 : List IOper := [⟨(some 39), .mv (.t 11), none⟩,
  ⟨(some 40), .bin .neq (.t 39) (.k (.c (.int .i64 0))), none⟩,
  ⟨(some 41), .mv (.t 40), none⟩,
  ⟨(some 42), .ld (some 67) (.t 10), some (41, false)⟩,
  ⟨(some 43), .ld (some 67) (.t 8), some (41, false)⟩,
  ⟨(some 44), .eqagg [.int, .int, .int, .int, .int, .int, .int, .int, .int, .int, .int, .int, .int, .int, .int, .int, .int, .int, .int, .int, .int, .int, .int, .int, .int, .int, .int, .int, .int, .int, .int, .int, .int, .int, .int, .int, .int, .int, .int, .int, .int, .int, .int, .int, .int, .int, .int, .int, .int, .int, .int, .int, .int, .int, .int, .int, .int, .int, .int, .int, .int, .int, .int, .int, .int, .int, .int] true (.t 42) (.t 43), some (41, false)⟩,
  ⟨(some 45), .pick (.t 41) (.k (.c (.bool true))) (.t 44), none⟩]
abbrev o_rotalaw03_FrameOwn_8 : List IOper := [⟨(some 6), .mv (.k (.c (.bool false))), none⟩]
abbrev o_rotalaw03_FrameOwn_9 : List IOper := [⟨(some 47), .mv (.t 0), none⟩,
  ⟨(some 48), .mv (.t 1), none⟩,
  ⟨(some 49), .ld (some 2) (.t 5), none⟩,
  ⟨(some 50), .call (.k (.c (.fn fn_frame_Accept [] []))) [(.t 47), (.t 48), (.t 49)], none⟩,
  ⟨(some 46), .mv (.t 50), none⟩,
  ⟨(some 51), .ext (.t 46) 0, none⟩,
  ⟨(some 52), .ext (.t 46) 1, none⟩,
  ⟨(some 12), .new 27 (.agg (List.replicate 2 (.int .i64 0) ++ [(.int .u16 0)] ++ List.replicate 64 (.int .u8 0))), none⟩,
  ⟨none, .st 67 (.t 12) (.t 51), none⟩,
  ⟨(some 13), .mv (.t 52), none⟩]
abbrev o_rotalaw03_FrameOwn_10 : List IOper := [⟨(some 53), .mv (.t 7), none⟩,
  ⟨(some 54), .mv (.t 53), none⟩,
  ⟨(some 55), .mv (.t 13), some (54, true)⟩,
  ⟨(some 56), .bin .neq (.t 55) (.k (.c (.int .i64 0))), some (54, true)⟩,
  ⟨(some 57), .mv (.t 56), some (54, true)⟩,
  ⟨(some 58), .mv (.t 9), some (57, false)⟩,
  ⟨(some 59), .bin .eql (.t 58) (.k (.c (.int .i64 0))), some (57, false)⟩,
  ⟨(some 60), .mv (.t 59), some (57, false)⟩,
  ⟨(some 61), .ld (some 67) (.t 12), some (60, true)⟩,
  ⟨(some 62), .ld (some 67) (.t 8), some (60, true)⟩,
  ⟨(some 63), .eqagg [.int, .int, .int, .int, .int, .int, .int, .int, .int, .int, .int, .int, .int, .int, .int, .int, .int, .int, .int, .int, .int, .int, .int, .int, .int, .int, .int, .int, .int, .int, .int, .int, .int, .int, .int, .int, .int, .int, .int, .int, .int, .int, .int, .int, .int, .int, .int, .int, .int, .int, .int, .int, .int, .int, .int, .int, .int, .int, .int, .int, .int, .int, .int, .int, .int, .int, .int] false (.t 61) (.t 62), some (60, true)⟩,
  ⟨(some 64), .pick (.t 60) (.t 63) (.k (.c (.bool false))), some (57, false)⟩,
  ⟨(some 65), .mv (.t 64), some (57, false)⟩,
  ⟨(some 66), .fa 0 (.t 12), some (65, true)⟩,
  ⟨(some 67), .ld none (.t 66), some (65, true)⟩,
  ⟨(some 68), .mv (.t 1), some (65, true)⟩,
  ⟨(some 69), .bin .eql (.t 67) (.t 68), some (65, true)⟩,
  ⟨(some 70), .pick (.t 65) (.t 69) (.k (.c (.bool false))), some (57, false)⟩,
  ⟨(some 71), .mv (.t 70), some (57, false)⟩,
  ⟨(some 72), .fa 1 (.t 12), some (71, true)⟩,
  ⟨(some 73), .ld (some 2) (.t 72), some (71, true)⟩,
  ⟨(some 74), .ld (some 2) (.t 5), some (71, true)⟩,
  ⟨(some 75), .eqagg [.int, .int] false (.t 73) (.t 74), some (71, true)⟩,
  ⟨(some 76), .pick (.t 71) (.t 75) (.k (.c (.bool false))), some (57, false)⟩,
  ⟨(some 77), .pick (.t 57) (.k (.c (.bool true))) (.t 76), some (54, true)⟩,
  ⟨(some 78), .pick (.t 54) (.t 77) (.k (.c (.bool false))), none⟩,
  ⟨(some 6), .mv (.t 78), none⟩]
def c_rotalaw03_FrameOwn : IC := (.seq (.ops o_rotalaw03_FrameOwn_0) (.seq (.ops o_rotalaw03_FrameOwn_1) (.seq (.seq (.ops o_rotalaw03_FrameOwn_2) (.cond (.t 21) (.seq (.ops o_rotalaw03_FrameOwn_3) .ret) .skip)) (.seq (.ops o_rotalaw03_FrameOwn_4) (.seq (.seq (.ops o_rotalaw03_FrameOwn_5) (.cond (.t 29) (.seq (.ops o_rotalaw03_FrameOwn_6) (.seq (.ops o_rotalaw03_FrameOwn_7) (.cond (.t 45) (.seq (.ops o_rotalaw03_FrameOwn_8) .ret) .skip))) .skip)) (.seq (.ops o_rotalaw03_FrameOwn_9) (.seq (.ops o_rotalaw03_FrameOwn_10) .ret)))))))
def i_rotalaw03_FrameOwn : IFn := ⟨79, c_rotalaw03_FrameOwn, [(6, none)]⟩

-- F 8 rota/rotalaw03.FrameNames: bads 0, calls [12, 12, 12, 12, 15, 15, 15, 19, 19, 15, 16, 13]
abbrev o_rotalaw03_FrameNames_0 : List IOper := [⟨(some 0), .mv (.k (.c (.bool false))), none⟩]
abbrev o_rotalaw03_FrameNames_1 : List IOper := [⟨(some 22), .build (List.replicate 2 (.int .i64 0) ++ [(.int .u16 0)] ++ List.replicate 64 (.int .u8 0)) [(0, 1, (.k (.c (.int .i64 16))))], none⟩,
  ⟨(some 23), .call (.k (.c (.fn fn_frame_Encode [] []))) [(.t 22)], none⟩,
  ⟨(some 21), .mv (.t 23), none⟩,
  ⟨(some 24), .ext (.t 21) 0, none⟩,
  ⟨(some 25), .ext (.t 21) 1, none⟩,
  ⟨(some 1), .mv (.t 24), none⟩,
  ⟨(some 2), .mv (.t 25), none⟩]
abbrev o_rotalaw03_FrameNames_2 : List IOper := [⟨(some 27), .build [(.int .i64 0), (.int .u16 0)] [(0, 1, (.k (.c (.int .i64 (-1)))))], none⟩,
  ⟨(some 28), .build (List.replicate 2 (.int .i64 0) ++ [(.int .u16 0)] ++ List.replicate 64 (.int .u8 0)) [(1, 2, (.t 27))], none⟩,
  ⟨(some 29), .call (.k (.c (.fn fn_frame_Encode [] []))) [(.t 28)], none⟩,
  ⟨(some 26), .mv (.t 29), none⟩,
  ⟨(some 30), .ext (.t 26) 0, none⟩,
  ⟨(some 31), .ext (.t 26) 1, none⟩,
  ⟨(some 3), .mv (.t 30), none⟩,
  ⟨(some 4), .mv (.t 31), none⟩]
abbrev o_rotalaw03_FrameNames_3 : List IOper := [⟨(some 33), .build [(.int .i64 0), (.int .u16 0)] [(0, 1, (.k (.c (.int .i64 2147483648))))], none⟩,
  ⟨(some 34), .build (List.replicate 2 (.int .i64 0) ++ [(.int .u16 0)] ++ List.replicate 64 (.int .u8 0)) [(1, 2, (.t 33))], none⟩,
  ⟨(some 35), .call (.k (.c (.fn fn_frame_Encode [] []))) [(.t 34)], none⟩,
  ⟨(some 32), .mv (.t 35), none⟩,
  ⟨(some 36), .ext (.t 32) 0, none⟩,
  ⟨(some 37), .ext (.t 32) 1, none⟩,
  ⟨(some 5), .mv (.t 36), none⟩,
  ⟨(some 6), .mv (.t 37), none⟩]
abbrev o_rotalaw03_FrameNames_4 : List IOper := [⟨(some 39), .build [(.int .i64 0), (.int .u16 0)] [(0, 1, (.k (.c (.int .i64 2147483647)))), (1, 1, (.k (.c (.int .u16 65535))))], none⟩,
  ⟨(some 40), .build (List.replicate 2 (.int .i64 0) ++ [(.int .u16 0)] ++ List.replicate 64 (.int .u8 0)) [(0, 1, (.k (.c (.int .i64 15)))), (1, 2, (.t 39))], none⟩,
  ⟨(some 41), .call (.k (.c (.fn fn_frame_Encode [] []))) [(.t 40)], none⟩,
  ⟨(some 38), .mv (.t 41), none⟩,
  ⟨(some 42), .ext (.t 38) 0, none⟩,
  ⟨(some 43), .ext (.t 38) 1, none⟩,
  ⟨(some 7), .mv (.t 42), none⟩,
  ⟨(some 8), .mv (.t 43), none⟩]
abbrev o_rotalaw03_FrameNames_5 : List IOper := [⟨(some 44), .mv (.t 7), none⟩,
  ⟨(some 45), .len false (.t 44), none⟩,
  ⟨(some 46), .bin .neq (.t 45) (.k (.c (.int .i64 75))), none⟩]
abbrev o_rotalaw03_FrameNames_6 : List IOper := [⟨(some 0), .mv (.k (.c (.bool false))), none⟩]
abbrev o_rotalaw03_FrameNames_7 : List IOper := [⟨(some 48), .mv (.t 7), none⟩,
  ⟨(some 49), .slS 1 (.t 48) none (some (.k (.c (.int .i64 74)))) none, none⟩,
  ⟨(some 50), .call (.k (.c (.fn fn_frame_Decode [] []))) [(.t 49)], none⟩,
  ⟨(some 47), .mv (.t 50), none⟩,
  ⟨(some 51), .ext (.t 47) 0, none⟩,
  ⟨(some 52), .ext (.t 47) 1, none⟩,
  ⟨(some 9), .new 27 (.agg (List.replicate 2 (.int .i64 0) ++ [(.int .u16 0)] ++ List.replicate 64 (.int .u8 0))), none⟩,
  ⟨none, .st 67 (.t 9) (.t 51), none⟩,
  ⟨(some 10), .mv (.t 52), none⟩]
abbrev o_rotalaw03_FrameNames_8 : List IOper := [⟨(some 54), .mv (.t 7), none⟩,
  ⟨(some 55), .bsl 5 1 [(.int .u8 0)] [(0, 1, (.k (.c (.int .u8 0))))], none⟩,
  ⟨(some 56), .app 5 1 1 (.t 54) (.t 55), none⟩,
  ⟨(some 57), .call (.k (.c (.fn fn_frame_Decode [] []))) [(.t 56)], none⟩,
  ⟨(some 53), .mv (.t 57), none⟩,
  ⟨(some 58), .ext (.t 53) 0, none⟩,
  ⟨(some 59), .ext (.t 53) 1, none⟩,
  ⟨(some 11), .new 27 (.agg (List.replicate 2 (.int .i64 0) ++ [(.int .u16 0)] ++ List.replicate 64 (.int .u8 0))), none⟩,
  ⟨none, .st 67 (.t 11) (.t 58), none⟩,
  ⟨(some 12), .mv (.t 59), none⟩]
abbrev o_rotalaw03_FrameNames_9 : List IOper := [⟨(some 61), .call (.k (.c (.fn fn_frame_Decode [] []))) [(.k (.c (.sl none 0 0 false)))], none⟩,
  ⟨(some 60), .mv (.t 61), none⟩,
  ⟨(some 62), .ext (.t 60) 0, none⟩,
  ⟨(some 63), .ext (.t 60) 1, none⟩,
  ⟨(some 13), .new 27 (.agg (List.replicate 2 (.int .i64 0) ++ [(.int .u16 0)] ++ List.replicate 64 (.int .u8 0))), none⟩,
  ⟨none, .st 67 (.t 13) (.t 62), none⟩,
  ⟨(some 14), .mv (.t 63), none⟩]
abbrev o_rotalaw03_FrameNames_10 : List IOper := [⟨(some 64), .bsl 5 2 [(.int .u8 0), (.int .u8 0)] [(0, 1, (.k (.c (.int .u8 0)))), (1, 1, (.k (.c (.int .u8 0))))], none⟩,
  ⟨(some 65), .call (.k (.c (.fn fn_frame_Corrupt [] []))) [(.t 64), (.k (.c (.int .i64 4))), (.k (.c (.int .u32 17)))], none⟩,
  ⟨(some 15), .mv (.t 65), none⟩]
abbrev o_rotalaw03_FrameNames_11 : List IOper := [⟨(some 66), .bsl 5 2 [(.int .u8 0), (.int .u8 0)] [(0, 1, (.k (.c (.int .u8 0)))), (1, 1, (.k (.c (.int .u8 0))))], none⟩,
  ⟨(some 67), .call (.k (.c (.fn fn_frame_Corrupt [] []))) [(.t 66), (.k (.c (.int .i64 (-1)))), (.k (.c (.int .u32 3)))], none⟩,
  ⟨(some 16), .mv (.t 67), none⟩]
abbrev o_rotalaw03_FrameNames_12 : List IOper := [⟨(some 69), .mv (.t 7), none⟩,
  ⟨(some 70), .call (.k (.c (.fn fn_frame_Decode [] []))) [(.t 69)], none⟩,
  ⟨(some 68), .mv (.t 70), none⟩,
  ⟨(some 71), .ext (.t 68) 0, none⟩,
  ⟨(some 72), .ext (.t 68) 1, none⟩,
  ⟨(some 17), .new 27 (.agg (List.replicate 2 (.int .i64 0) ++ [(.int .u16 0)] ++ List.replicate 64 (.int .u8 0))), none⟩,
  ⟨none, .st 67 (.t 17) (.t 71), none⟩,
  ⟨(some 18), .mv (.t 72), none⟩]
abbrev o_rotalaw03_FrameNames_13 : List IOper := [⟨(some 74), .mv (.t 7), none⟩,
  ⟨(some 75), .build [(.int .i64 0), (.int .u16 0)] [(0, 1, (.k (.c (.int .i64 (-2147483649))))), (1, 1, (.k (.c (.int .u16 65535))))], none⟩,
  ⟨(some 76), .call (.k (.c (.fn fn_frame_Accept [] []))) [(.t 74), (.k (.c (.int .i64 15))), (.t 75)], none⟩,
  ⟨(some 73), .mv (.t 76), none⟩,
  ⟨(some 77), .ext (.t 73) 0, none⟩,
  ⟨(some 78), .ext (.t 73) 1, none⟩,
  ⟨(some 19), .new 27 (.agg (List.replicate 2 (.int .i64 0) ++ [(.int .u16 0)] ++ List.replicate 64 (.int .u8 0))), none⟩,
  ⟨none, .st 67 (.t 19) (.t 77), none⟩,
  ⟨(some 20), .mv (.t 78), none⟩]
abbrev o_rotalaw03_FrameNames_14 : List IOper := [⟨(some 79), .mv (.k (.c (.bool true))), none⟩,
  ⟨(some 80), .call (.k (.c (.fn fn_rotalaw03_alive [] []))) [], some (79, true)⟩,
  ⟨(some 81), .pick (.t 79) (.t 80) (.k (.c (.bool false))), none⟩,
  ⟨(some 82), .mv (.t 81), none⟩,
  ⟨(some 83), .mv (.t 2), some (82, true)⟩,
  ⟨(some 84), .bin .eql (.t 83) (.k (.c (.int .i64 2))), some (82, true)⟩,
  ⟨(some 85), .pick (.t 82) (.t 84) (.k (.c (.bool false))), none⟩,
  ⟨(some 86), .mv (.t 85), none⟩,
  ⟨(some 87), .mv (.t 4), some (86, true)⟩,
  ⟨(some 88), .bin .eql (.t 87) (.k (.c (.int .i64 2))), some (86, true)⟩,
  ⟨(some 89), .pick (.t 86) (.t 88) (.k (.c (.bool false))), none⟩,
  ⟨(some 90), .mv (.t 89), none⟩,
  ⟨(some 91), .mv (.t 6), some (90, true)⟩,
  ⟨(some 92), .bin .eql (.t 91) (.k (.c (.int .i64 2))), some (90, true)⟩,
  ⟨(some 93), .pick (.t 90) (.t 92) (.k (.c (.bool false))), none⟩,
  ⟨(some 94), .mv (.t 93), none⟩,
  ⟨(some 95), .mv (.t 8), some (94, true)⟩,
  ⟨(some 96), .bin .eql (.t 95) (.k (.c (.int .i64 0))), some (94, true)⟩,
  ⟨(some 97), .pick (.t 94) (.t 96) (.k (.c (.bool false))), none⟩,
  ⟨(some 98), .mv (.t 97), none⟩,
  ⟨(some 99), .mv (.t 10), some (98, true)⟩,
  ⟨(some 100), .bin .eql (.t 99) (.k (.c (.int .i64 30))), some (98, true)⟩,
  ⟨(some 101), .pick (.t 98) (.t 100) (.k (.c (.bool false))), none⟩,
  ⟨(some 102), .mv (.t 101), none⟩,
  ⟨(some 103), .mv (.t 12), some (102, true)⟩,
  ⟨(some 104), .bin .eql (.t 103) (.k (.c (.int .i64 30))), some (102, true)⟩,
  ⟨(some 105), .pick (.t 102) (.t 104) (.k (.c (.bool false))), none⟩,
  ⟨(some 106), .mv (.t 105), none⟩,
  ⟨(some 107), .mv (.t 14), some (106, true)⟩,
  ⟨(some 108), .bin .eql (.t 107) (.k (.c (.int .i64 30))), some (106, true)⟩,
  ⟨(some 109), .pick (.t 106) (.t 108) (.k (.c (.bool false))), none⟩,
  ⟨(some 110), .mv (.t 109), none⟩,
  ⟨(some 111), .mv (.t 15), some (110, true)⟩,
  ⟨(some 112), .b2s (.t 111), some (110, true)⟩,
  ⟨(some 113), .bin .eql (.t 112) (.k (.c (.str ⟨#[16, 1]⟩))), some (110, true)⟩,
  ⟨(some 114), .pick (.t 110) (.t 113) (.k (.c (.bool false))), none⟩,
  ⟨(some 115), .mv (.t 114), none⟩,
  ⟨(some 116), .mv (.t 16), some (115, true)⟩,
  ⟨(some 117), .b2s (.t 116), some (115, true)⟩,
  ⟨(some 118), .bin .eql (.t 117) (.k (.c (.str ⟨#[1, 0]⟩))), some (115, true)⟩,
  ⟨(some 119), .pick (.t 115) (.t 118) (.k (.c (.bool false))), none⟩,
  ⟨(some 120), .mv (.t 119), none⟩,
  ⟨(some 121), .mv (.t 18), some (120, true)⟩,
  ⟨(some 122), .bin .eql (.t 121) (.k (.c (.int .i64 0))), some (120, true)⟩,
  ⟨(some 123), .pick (.t 120) (.t 122) (.k (.c (.bool false))), none⟩,
  ⟨(some 124), .mv (.t 123), none⟩,
  ⟨(some 125), .fa 0 (.t 17), some (124, true)⟩,
  ⟨(some 126), .ld none (.t 125), some (124, true)⟩,
  ⟨(some 127), .bin .eql (.t 126) (.k (.c (.int .i64 15))), some (124, true)⟩,
  ⟨(some 128), .pick (.t 124) (.t 127) (.k (.c (.bool false))), none⟩,
  ⟨(some 129), .mv (.t 128), none⟩,
  ⟨(some 130), .fa 1 (.t 17), some (129, true)⟩,
  ⟨(some 131), .fa 1 (.t 130), some (129, true)⟩,
  ⟨(some 132), .ld none (.t 131), some (129, true)⟩,
  ⟨(some 133), .bin .eql (.t 132) (.k (.c (.int .u16 65535))), some (129, true)⟩,
  ⟨(some 134), .pick (.t 129) (.t 133) (.k (.c (.bool false))), none⟩,
  ⟨(some 135), .mv (.t 134), none⟩,
  ⟨(some 136), .mv (.t 20), some (135, true)⟩,
  ⟨(some 137), .bin .eql (.t 136) (.k (.c (.int .i64 30))), some (135, true)⟩,
  ⟨(some 138), .pick (.t 135) (.t 137) (.k (.c (.bool false))), none⟩,
  ⟨(some 0), .mv (.t 138), none⟩]
def c_rotalaw03_FrameNames : IC := (.seq (.ops o_rotalaw03_FrameNames_0) (.seq (.ops o_rotalaw03_FrameNames_1) (.seq (.ops o_rotalaw03_FrameNames_2) (.seq (.ops o_rotalaw03_FrameNames_3) (.seq (.ops o_rotalaw03_FrameNames_4) (.seq (.seq (.ops o_rotalaw03_FrameNames_5) (.cond (.t 46) (.seq (.ops o_rotalaw03_FrameNames_6) .ret) .skip)) (.seq (.ops o_rotalaw03_FrameNames_7) (.seq (.ops o_rotalaw03_FrameNames_8) (.seq (.ops o_rotalaw03_FrameNames_9) (.seq (.ops o_rotalaw03_FrameNames_10) (.seq (.ops o_rotalaw03_FrameNames_11) (.seq (.ops o_rotalaw03_FrameNames_12) (.seq (.ops o_rotalaw03_FrameNames_13) (.seq (.ops o_rotalaw03_FrameNames_14) .ret))))))))))))))
def i_rotalaw03_FrameNames : IFn := ⟨139, c_rotalaw03_FrameNames, [(0, none)]⟩

-- F 9 rota/rotalaw03.FrameBursts: bads 0, calls [13, 14, 12, 19, 15, 16, 19, 16]
abbrev o_rotalaw03_FrameBursts_0 : List IOper := [⟨(some 3), .box 27 (.t 0), none⟩,
  ⟨(some 6), .mv (.k (.c (.bool false))), none⟩]
abbrev o_rotalaw03_FrameBursts_1 : List IOper := [⟨(some 19), .call (.k (.c (.fn fn_rotalaw03_alive [] []))) [], none⟩,
  ⟨(some 7), .mv (.t 19), none⟩]
abbrev o_rotalaw03_FrameBursts_2 : List IOper := [⟨(some 20), .ld (some 67) (.t 3), none⟩,
  ⟨(some 21), .call (.k (.c (.fn fn_rotalaw03_right [] []))) [(.t 20)], none⟩,
  ⟨none, .st 67 (.t 3) (.t 21), none⟩]
abbrev o_rotalaw03_FrameBursts_3 : List IOper := [⟨(some 23), .ld (some 67) (.t 3), none⟩,
  ⟨(some 24), .call (.k (.c (.fn fn_frame_Encode [] []))) [(.t 23)], none⟩,
  ⟨(some 22), .mv (.t 24), none⟩,
  ⟨(some 25), .ext (.t 22) 0, none⟩,
  ⟨(some 26), .ext (.t 22) 1, none⟩,
  ⟨(some 8), .mv (.t 25), none⟩,
  ⟨(some 9), .mv (.t 26), none⟩]
abbrev o_rotalaw03_FrameBursts_4 : List IOper := [⟨(some 27), .mv (.t 8), none⟩,
  ⟨(some 28), .mv (.t 1), none⟩,
  ⟨(some 29), .mv (.t 2), none⟩,
  ⟨(some 30), .call (.k (.c (.fn fn_frame_Corrupt [] []))) [(.t 27), (.t 28), (.t 29)], none⟩,
  ⟨(some 10), .mv (.t 30), none⟩]
abbrev o_rotalaw03_FrameBursts_5 : List IOper := [⟨(some 31), .mv (.t 9), none⟩,
  ⟨(some 32), .bin .neq (.t 31) (.k (.c (.int .i64 0))), none⟩,
  ⟨(some 33), .mv (.t 32), none⟩,
  ⟨(some 34), .mv (.t 10), some (33, false)⟩,
  ⟨(some 35), .len false (.t 34), some (33, false)⟩,
  ⟨(some 36), .mv (.t 8), some (33, false)⟩,
  ⟨(some 37), .len false (.t 36), some (33, false)⟩,
  ⟨(some 38), .bin .neq (.t 35) (.t 37), some (33, false)⟩,
  ⟨(some 39), .pick (.t 33) (.k (.c (.bool true))) (.t 38), none⟩]
abbrev o_rotalaw03_FrameBursts_6 : List IOper := [⟨(some 6), .mv (.k (.c (.bool false))), none⟩]
abbrev o_rotalaw03_FrameBursts_7 : List IOper := [⟨(some 41), .mv (.t 10), none⟩,
  ⟨(some 42), .call (.k (.c (.fn fn_frame_Decode [] []))) [(.t 41)], none⟩,
  ⟨(some 40), .mv (.t 42), none⟩,
  ⟨(some 43), .ext (.t 40) 0, none⟩,
  ⟨(some 44), .ext (.t 40) 1, none⟩,
  ⟨(some 11), .new 27 (.agg (List.replicate 2 (.int .i64 0) ++ [(.int .u16 0)] ++ List.replicate 64 (.int .u8 0))), none⟩,
  ⟨none, .st 67 (.t 11) (.t 43), none⟩,
  ⟨(some 12), .mv (.t 44), none⟩]
abbrev o_rotalaw03_FrameBursts_8 : List IOper := [⟨(some 46), .mv (.t 10), none⟩,
  ⟨(some 47), .fa 0 (.t 3), none⟩,
  ⟨(some 48), .ld none (.t 47), none⟩,
  ⟨(some 49), .fa 1 (.t 3), none⟩,
  ⟨(some 50), .ld (some 2) (.t 49), none⟩,
  ⟨(some 51), .call (.k (.c (.fn fn_frame_Accept [] []))) [(.t 46), (.t 48), (.t 50)], none⟩,
  ⟨(some 45), .mv (.t 51), none⟩,
  ⟨(some 52), .ext (.t 45) 0, none⟩,
  ⟨(some 53), .ext (.t 45) 1, none⟩,
  ⟨(some 13), .new 27 (.agg (List.replicate 2 (.int .i64 0) ++ [(.int .u16 0)] ++ List.replicate 64 (.int .u8 0))), none⟩,
  ⟨none, .st 67 (.t 13) (.t 52), none⟩,
  ⟨(some 14), .mv (.t 53), none⟩]
abbrev o_rotalaw03_FrameBursts_9 : List IOper := [⟨(some 54), .mv (.t 8), none⟩,
  ⟨(some 55), .b2s (.t 54), none⟩,
  ⟨(some 56), .mv (.t 10), none⟩,
  ⟨(some 57), .b2s (.t 56), none⟩,
  ⟨(some 58), .bin .eql (.t 55) (.t 57), none⟩]
abbrev o_rotalaw03_FrameBursts_10 : List IOper := [⟨(some 59), .mv (.t 7), none⟩,
  ⟨(some 60), .mv (.t 59), none⟩,
  ⟨(some 61), .mv (.t 12), some (60, true)⟩,
  ⟨(some 62), .bin .eql (.t 61) (.k (.c (.int .i64 0))), some (60, true)⟩,
  ⟨(some 63), .pick (.t 60) (.t 62) (.k (.c (.bool false))), none⟩,
  ⟨(some 64), .mv (.t 63), none⟩,
  ⟨(some 65), .mv (.t 14), some (64, true)⟩,
  ⟨(some 66), .bin .eql (.t 65) (.k (.c (.int .i64 0))), some (64, true)⟩,
  ⟨(some 67), .pick (.t 64) (.t 66) (.k (.c (.bool false))), none⟩,
  ⟨(some 68), .mv (.t 67), none⟩,
  ⟨(some 69), .ld (some 67) (.t 11), some (68, true)⟩,
  ⟨(some 70), .ld (some 67) (.t 3), some (68, true)⟩,
  ⟨(some 71), .eqagg [.int, .int, .int, .int, .int, .int, .int, .int, .int, .int, .int, .int, .int, .int, .int, .int, .int, .int, .int, .int, .int, .int, .int, .int, .int, .int, .int, .int, .int, .int, .int, .int, .int, .int, .int, .int, .int, .int, .int, .int, .int, .int, .int, .int, .int, .int, .int, .int, .int, .int, .int, .int, .int, .int, .int, .int, .int, .int, .int, .int, .int, .int, .int, .int, .int, .int, .int] false (.t 69) (.t 70), some (68, true)⟩,
  ⟨(some 72), .pick (.t 68) (.t 71) (.k (.c (.bool false))), none⟩,
  ⟨(some 73), .mv (.t 72), none⟩,
  ⟨(some 74), .ld (some 67) (.t 13), some (73, true)⟩,
  ⟨(some 75), .ld (some 67) (.t 3), some (73, true)⟩,
  ⟨(some 76), .eqagg [.int, .int, .int, .int, .int, .int, .int, .int, .int, .int, .int, .int, .int, .int, .int, .int, .int, .int, .int, .int, .int, .int, .int, .int, .int, .int, .int, .int, .int, .int, .int, .int, .int, .int, .int, .int, .int, .int, .int, .int, .int, .int, .int, .int, .int, .int, .int, .int, .int, .int, .int, .int, .int, .int, .int, .int, .int, .int, .int, .int, .int, .int, .int, .int, .int, .int, .int] false (.t 74) (.t 75), some (73, true)⟩,
  ⟨(some 77), .pick (.t 73) (.t 76) (.k (.c (.bool false))), none⟩,
  ⟨(some 6), .mv (.t 77), none⟩]
abbrev o_rotalaw03_FrameBursts_11 : List IOper := [⟨(some 78), .mv (.t 10), none⟩,
  ⟨(some 79), .mv (.t 1), none⟩,
  ⟨(some 80), .mv (.t 2), none⟩,
  ⟨(some 81), .call (.k (.c (.fn fn_frame_Corrupt [] []))) [(.t 78), (.t 79), (.t 80)], none⟩,
  ⟨(some 15), .mv (.t 81), none⟩]
abbrev o_rotalaw03_FrameBursts_12 : List IOper := [⟨(some 82), .ld (some 67) (.t 3), none⟩,
  ⟨(some 16), .new 27 (.agg (List.replicate 2 (.int .i64 0) ++ [(.int .u16 0)] ++ List.replicate 64 (.int .u8 0))), none⟩,
  ⟨none, .st 67 (.t 16) (.t 82), none⟩]
abbrev o_rotalaw03_FrameBursts_13 : List IOper := [⟨(some 83), .mv (.t 10), none⟩,
  ⟨(some 84), .len false (.t 83), none⟩,
  ⟨(some 85), .bin .eql (.t 84) (.k (.c (.int .i64 75))), none⟩]
abbrev o_rotalaw03_FrameBursts_14 : List IOper := [⟨(some 86), .mv (.t 10), none⟩,
  ⟨(some 87), .iaS 1 (.t 86) (.k (.c (.int .i64 6))), none⟩,
  ⟨(some 88), .ld none (.t 87), none⟩,
  ⟨(some 89), .cv .i64 (.t 88), none⟩,
  ⟨(some 90), .fa 0 (.t 16), none⟩,
  ⟨none, .st 1 (.t 90) (.t 89), none⟩]
abbrev o_rotalaw03_FrameBursts_15 : List IOper := [⟨(some 91), .mv (.t 10), none⟩,
  ⟨(some 92), .iaS 1 (.t 91) (.k (.c (.int .i64 0))), none⟩,
  ⟨(some 93), .ld none (.t 92), none⟩,
  ⟨(some 94), .cv .i64 (.t 93), none⟩,
  ⟨(some 95), .bin .shl (.t 94) (.k (.c (.int .u64 24))), none⟩,
  ⟨(some 96), .mv (.t 10), none⟩,
  ⟨(some 97), .iaS 1 (.t 96) (.k (.c (.int .i64 1))), none⟩,
  ⟨(some 98), .ld none (.t 97), none⟩,
  ⟨(some 99), .cv .i64 (.t 98), none⟩,
  ⟨(some 100), .bin .shl (.t 99) (.k (.c (.int .u64 16))), none⟩,
  ⟨(some 101), .bin .or (.t 95) (.t 100), none⟩,
  ⟨(some 102), .mv (.t 10), none⟩,
  ⟨(some 103), .iaS 1 (.t 102) (.k (.c (.int .i64 2))), none⟩,
  ⟨(some 104), .ld none (.t 103), none⟩,
  ⟨(some 105), .cv .i64 (.t 104), none⟩,
  ⟨(some 106), .bin .shl (.t 105) (.k (.c (.int .u64 8))), none⟩,
  ⟨(some 107), .bin .or (.t 101) (.t 106), none⟩,
  ⟨(some 108), .mv (.t 10), none⟩,
  ⟨(some 109), .iaS 1 (.t 108) (.k (.c (.int .i64 3))), none⟩,
  ⟨(some 110), .ld none (.t 109), none⟩,
  ⟨(some 111), .cv .i64 (.t 110), none⟩,
  ⟨(some 112), .bin .or (.t 107) (.t 111), none⟩,
  ⟨(some 113), .fa 1 (.t 16), none⟩,
  ⟨(some 114), .fa 0 (.t 113), none⟩,
  ⟨none, .st 1 (.t 114) (.t 112), none⟩]
abbrev o_rotalaw03_FrameBursts_16 : List IOper := [⟨(some 115), .mv (.t 10), none⟩,
  ⟨(some 116), .iaS 1 (.t 115) (.k (.c (.int .i64 4))), none⟩,
  ⟨(some 117), .ld none (.t 116), none⟩,
  ⟨(some 118), .cv .u16 (.t 117), none⟩,
  ⟨(some 119), .bin .shl (.t 118) (.k (.c (.int .u64 8))), none⟩,
  ⟨(some 120), .mv (.t 10), none⟩,
  ⟨(some 121), .iaS 1 (.t 120) (.k (.c (.int .i64 5))), none⟩,
  ⟨(some 122), .ld none (.t 121), none⟩,
  ⟨(some 123), .cv .u16 (.t 122), none⟩,
  ⟨(some 124), .bin .or (.t 119) (.t 123), none⟩,
  ⟨(some 125), .fa 1 (.t 16), none⟩,
  ⟨(some 126), .fa 1 (.t 125), none⟩,
  ⟨none, .st 1 (.t 126) (.t 124), none⟩]
abbrev o_rotalaw03_FrameBursts_17 : List IOper := [⟨(some 128), .mv (.t 10), none⟩,
  ⟨(some 129), .fa 0 (.t 16), none⟩,
  ⟨(some 130), .ld none (.t 129), none⟩,
  ⟨(some 131), .fa 1 (.t 16), none⟩,
  ⟨(some 132), .ld (some 2) (.t 131), none⟩,
  ⟨(some 133), .call (.k (.c (.fn fn_frame_Accept [] []))) [(.t 128), (.t 130), (.t 132)], none⟩,
  ⟨(some 127), .mv (.t 133), none⟩,
  ⟨(some 134), .ext (.t 127) 0, none⟩,
  ⟨(some 135), .ext (.t 127) 1, none⟩,
  ⟨(some 17), .new 27 (.agg (List.replicate 2 (.int .i64 0) ++ [(.int .u16 0)] ++ List.replicate 64 (.int .u8 0))), none⟩,
  ⟨none, .st 67 (.t 17) (.t 134), none⟩,
  ⟨(some 18), .mv (.t 135), none⟩]
abbrev o_rotalaw03_FrameBursts_18 : List IOper := [⟨(some 136), .mv (.t 7), none⟩,
  ⟨(some 137), .mv (.t 136), none⟩,
  ⟨(some 138), .mv (.t 12), some (137, true)⟩,
  ⟨(some 139), .bin .neq (.t 138) (.k (.c (.int .i64 0))), some (137, true)⟩,
  ⟨(some 140), .pick (.t 137) (.t 139) (.k (.c (.bool false))), none⟩,
  ⟨(some 141), .mv (.t 140), none⟩,
  ⟨(some 142), .mv (.t 14), some (141, true)⟩,
  ⟨(some 143), .bin .neq (.t 142) (.k (.c (.int .i64 0))), some (141, true)⟩,
  ⟨(some 144), .pick (.t 141) (.t 143) (.k (.c (.bool false))), none⟩,
  ⟨(some 145), .mv (.t 144), none⟩,
  ⟨(some 146), .mv (.t 18), some (145, true)⟩,
  ⟨(some 147), .bin .neq (.t 146) (.k (.c (.int .i64 0))), some (145, true)⟩,
  ⟨(some 148), .pick (.t 145) (.t 147) (.k (.c (.bool false))), none⟩,
  ⟨(some 149), .mv (.t 148), none⟩,
  ⟨(some 150), .mv (.t 15), some (149, true)⟩,
  ⟨(some 151), .b2s (.t 150), some (149, true)⟩,
  ⟨(some 152), .mv (.t 8), some (149, true)⟩,
  ⟨(some 153), .b2s (.t 152), some (149, true)⟩,
  ⟨(some 154), .bin .eql (.t 151) (.t 153), some (149, true)⟩,
  ⟨(some 155), .pick (.t 149) (.t 154) (.k (.c (.bool false))), none⟩,
  ⟨(some 6), .mv (.t 155), none⟩]
def c_rotalaw03_FrameBursts : IC := (.seq (.ops o_rotalaw03_FrameBursts_0) (.seq (.ops o_rotalaw03_FrameBursts_1) (.seq (.ops o_rotalaw03_FrameBursts_2) (.seq (.ops o_rotalaw03_FrameBursts_3) (.seq (.ops o_rotalaw03_FrameBursts_4) (.seq (.seq (.ops o_rotalaw03_FrameBursts_5) (.cond (.t 39) (.seq (.ops o_rotalaw03_FrameBursts_6) .ret) .skip)) (.seq (.ops o_rotalaw03_FrameBursts_7) (.seq (.ops o_rotalaw03_FrameBursts_8) (.seq (.seq (.ops o_rotalaw03_FrameBursts_9) (.cond (.t 58) (.seq (.ops o_rotalaw03_FrameBursts_10) .ret) .skip)) (.seq (.ops o_rotalaw03_FrameBursts_11) (.seq (.ops o_rotalaw03_FrameBursts_12) (.seq (.seq (.ops o_rotalaw03_FrameBursts_13) (.cond (.t 85) (.seq (.ops o_rotalaw03_FrameBursts_14) (.seq (.ops o_rotalaw03_FrameBursts_15) (.ops o_rotalaw03_FrameBursts_16))) .skip)) (.seq (.ops o_rotalaw03_FrameBursts_17) (.seq (.ops o_rotalaw03_FrameBursts_18) .ret))))))))))))))
def i_rotalaw03_FrameBursts : IFn := ⟨156, c_rotalaw03_FrameBursts, [(6, none)]⟩

-- F 10 rota/rotalaw03.FrameBlind: bads 0, calls [13, 14, 12, 12, 19, 19, 16, 16, 15, 15]
abbrev o_rotalaw03_FrameBlind_0 : List IOper := [⟨(some 3), .box 27 (.t 0), none⟩,
  ⟨(some 4), .box 25 (.t 1), none⟩,
  ⟨(some 5), .box 52 (.t 2), none⟩,
  ⟨(some 6), .mv (.k (.c (.bool false))), none⟩]
abbrev o_rotalaw03_FrameBlind_1 : List IOper := [⟨(some 22), .call (.k (.c (.fn fn_rotalaw03_alive [] []))) [], none⟩,
  ⟨(some 7), .mv (.t 22), none⟩]
abbrev o_rotalaw03_FrameBlind_2 : List IOper := [⟨(some 23), .ld (some 67) (.t 3), none⟩,
  ⟨(some 24), .call (.k (.c (.fn fn_rotalaw03_right [] []))) [(.t 23)], none⟩,
  ⟨none, .st 67 (.t 3) (.t 24), none⟩]
abbrev o_rotalaw03_FrameBlind_3 : List IOper := [⟨(some 25), .ld (some 67) (.t 3), none⟩,
  ⟨(some 8), .new 27 (.agg (List.replicate 2 (.int .i64 0) ++ [(.int .u16 0)] ++ List.replicate 64 (.int .u8 0))), none⟩,
  ⟨none, .st 67 (.t 8) (.t 25), none⟩]
abbrev o_rotalaw03_FrameBlind_4 : List IOper := [⟨(some 26), .ld (some 64) (.t 4), none⟩,
  ⟨(some 27), .fa 3 (.t 8), none⟩,
  ⟨none, .st 64 (.t 27) (.t 26), none⟩]
abbrev o_rotalaw03_FrameBlind_5 : List IOper := [⟨(some 29), .ld (some 67) (.t 3), none⟩,
  ⟨(some 30), .call (.k (.c (.fn fn_frame_Encode [] []))) [(.t 29)], none⟩,
  ⟨(some 28), .mv (.t 30), none⟩,
  ⟨(some 31), .ext (.t 28) 0, none⟩,
  ⟨(some 32), .ext (.t 28) 1, none⟩,
  ⟨(some 9), .mv (.t 31), none⟩,
  ⟨(some 10), .mv (.t 32), none⟩]
abbrev o_rotalaw03_FrameBlind_6 : List IOper := [⟨(some 34), .ld (some 67) (.t 8), none⟩,
  ⟨(some 35), .call (.k (.c (.fn fn_frame_Encode [] []))) [(.t 34)], none⟩,
  ⟨(some 33), .mv (.t 35), none⟩,
  ⟨(some 36), .ext (.t 33) 0, none⟩,
  ⟨(some 37), .ext (.t 33) 1, none⟩,
  ⟨(some 11), .mv (.t 36), none⟩,
  ⟨(some 12), .mv (.t 37), none⟩]
abbrev o_rotalaw03_FrameBlind_7 : List IOper := [⟨(some 38), .mv (.t 10), none⟩,
  ⟨(some 39), .bin .neq (.t 38) (.k (.c (.int .i64 0))), none⟩,
  ⟨(some 40), .mv (.t 39), none⟩,
  ⟨(some 41), .mv (.t 12), some (40, false)⟩,
  ⟨(some 42), .bin .neq (.t 41) (.k (.c (.int .i64 0))), some (40, false)⟩,
  ⟨(some 43), .pick (.t 40) (.k (.c (.bool true))) (.t 42), none⟩]
abbrev o_rotalaw03_FrameBlind_8 : List IOper := [⟨(some 6), .mv (.k (.c (.bool false))), none⟩]
abbrev o_rotalaw03_FrameBlind_9 : List IOper := [⟨(some 13), .mv (.k (.c (.int .i64 0))), none⟩]
abbrev o_rotalaw03_FrameBlind_10 : List IOper := [⟨(some 44), .mv (.t 13), none⟩,
  ⟨(some 45), .bin .lss (.t 44) (.k (.c (.int .i64 2))), none⟩]
abbrev o_rotalaw03_FrameBlind_11 : List IOper := [⟨(some 48), .mv (.t 9), none⟩,
  ⟨(some 49), .mv (.t 13), none⟩,
  ⟨(some 50), .iaA 2 2 (.t 5) (.t 49), none⟩,
  ⟨(some 51), .fa 0 (.t 50), none⟩,
  ⟨(some 52), .ld none (.t 51), none⟩,
  ⟨(some 53), .mv (.t 13), none⟩,
  ⟨(some 54), .iaA 2 2 (.t 5) (.t 53), none⟩,
  ⟨(some 55), .fa 1 (.t 54), none⟩,
  ⟨(some 56), .ld none (.t 55), none⟩,
  ⟨(some 57), .call (.k (.c (.fn fn_frame_Corrupt [] []))) [(.t 48), (.t 52), (.t 56)], none⟩,
  ⟨(some 9), .mv (.t 57), none⟩]
abbrev o_rotalaw03_FrameBlind_12 : List IOper := [⟨(some 58), .mv (.t 11), none⟩,
  ⟨(some 59), .mv (.t 13), none⟩,
  ⟨(some 60), .iaA 2 2 (.t 5) (.t 59), none⟩,
  ⟨(some 61), .fa 0 (.t 60), none⟩,
  ⟨(some 62), .ld none (.t 61), none⟩,
  ⟨(some 63), .mv (.t 13), none⟩,
  ⟨(some 64), .iaA 2 2 (.t 5) (.t 63), none⟩,
  ⟨(some 65), .fa 1 (.t 64), none⟩,
  ⟨(some 66), .ld none (.t 65), none⟩,
  ⟨(some 67), .call (.k (.c (.fn fn_frame_Corrupt [] []))) [(.t 58), (.t 62), (.t 66)], none⟩,
  ⟨(some 11), .mv (.t 67), none⟩]
abbrev o_rotalaw03_FrameBlind_13 : List IOper := [⟨(some 46), .mv (.t 13), none⟩,
  ⟨(some 47), .bin .add (.t 46) (.k (.c (.int .i64 1))), none⟩,
  ⟨(some 13), .mv (.t 47), none⟩]
def b_rotalaw03_FrameBlind_14 : IC := (.seq (.seq (.ops o_rotalaw03_FrameBlind_10) (.cond (.t 45) .skip (.exit 0))) (.seq (.block 1 (.seq (.ops o_rotalaw03_FrameBlind_11) (.ops o_rotalaw03_FrameBlind_12))) (.ops o_rotalaw03_FrameBlind_13)))
abbrev o_rotalaw03_FrameBlind_15 : List IOper := [⟨(some 69), .mv (.t 9), none⟩,
  ⟨(some 70), .fa 0 (.t 3), none⟩,
  ⟨(some 71), .ld none (.t 70), none⟩,
  ⟨(some 72), .fa 1 (.t 3), none⟩,
  ⟨(some 73), .ld (some 2) (.t 72), none⟩,
  ⟨(some 74), .call (.k (.c (.fn fn_frame_Accept [] []))) [(.t 69), (.t 71), (.t 73)], none⟩,
  ⟨(some 68), .mv (.t 74), none⟩,
  ⟨(some 75), .ext (.t 68) 0, none⟩,
  ⟨(some 76), .ext (.t 68) 1, none⟩,
  ⟨(some 14), .new 27 (.agg (List.replicate 2 (.int .i64 0) ++ [(.int .u16 0)] ++ List.replicate 64 (.int .u8 0))), none⟩,
  ⟨none, .st 67 (.t 14) (.t 75), none⟩,
  ⟨(some 15), .mv (.t 76), none⟩]
abbrev o_rotalaw03_FrameBlind_16 : List IOper := [⟨(some 78), .mv (.t 11), none⟩,
  ⟨(some 79), .fa 0 (.t 3), none⟩,
  ⟨(some 80), .ld none (.t 79), none⟩,
  ⟨(some 81), .fa 1 (.t 3), none⟩,
  ⟨(some 82), .ld (some 2) (.t 81), none⟩,
  ⟨(some 83), .call (.k (.c (.fn fn_frame_Accept [] []))) [(.t 78), (.t 80), (.t 82)], none⟩,
  ⟨(some 77), .mv (.t 83), none⟩,
  ⟨(some 84), .ext (.t 77) 0, none⟩,
  ⟨(some 85), .ext (.t 77) 1, none⟩,
  ⟨(some 16), .new 27 (.agg (List.replicate 2 (.int .i64 0) ++ [(.int .u16 0)] ++ List.replicate 64 (.int .u8 0))), none⟩,
  ⟨none, .st 67 (.t 16) (.t 84), none⟩,
  ⟨(some 17), .mv (.t 85), none⟩]
abbrev o_rotalaw03_FrameBlind_17 : List IOper := [⟨(some 87), .mv (.t 9), none⟩,
  ⟨(some 88), .call (.k (.c (.fn fn_frame_Decode [] []))) [(.t 87)], none⟩,
  ⟨(some 86), .mv (.t 88), none⟩,
  ⟨(some 89), .ext (.t 86) 0, none⟩,
  ⟨(some 90), .ext (.t 86) 1, none⟩,
  ⟨(some 18), .new 27 (.agg (List.replicate 2 (.int .i64 0) ++ [(.int .u16 0)] ++ List.replicate 64 (.int .u8 0))), none⟩,
  ⟨none, .st 67 (.t 18) (.t 89), none⟩,
  ⟨(some 19), .mv (.t 90), none⟩]
abbrev o_rotalaw03_FrameBlind_18 : List IOper := [⟨(some 92), .mv (.t 11), none⟩,
  ⟨(some 93), .call (.k (.c (.fn fn_frame_Decode [] []))) [(.t 92)], none⟩,
  ⟨(some 91), .mv (.t 93), none⟩,
  ⟨(some 94), .ext (.t 91) 0, none⟩,
  ⟨(some 95), .ext (.t 91) 1, none⟩,
  ⟨(some 20), .new 27 (.agg (List.replicate 2 (.int .i64 0) ++ [(.int .u16 0)] ++ List.replicate 64 (.int .u8 0))), none⟩,
  ⟨none, .st 67 (.t 20) (.t 94), none⟩,
  ⟨(some 21), .mv (.t 95), none⟩]
abbrev o_rotalaw03_FrameBlind_19 : List IOper := [⟨(some 96), .mv (.t 7), none⟩,
  ⟨(some 97), .mv (.t 96), none⟩,
  ⟨(some 98), .mv (.t 15), some (97, true)⟩,
  ⟨(some 99), .mv (.t 17), some (97, true)⟩,
  ⟨(some 100), .bin .eql (.t 98) (.t 99), some (97, true)⟩,
  ⟨(some 101), .pick (.t 97) (.t 100) (.k (.c (.bool false))), none⟩,
  ⟨(some 102), .mv (.t 101), none⟩,
  ⟨(some 103), .mv (.t 19), some (102, true)⟩,
  ⟨(some 104), .mv (.t 21), some (102, true)⟩,
  ⟨(some 105), .bin .eql (.t 103) (.t 104), some (102, true)⟩,
  ⟨(some 106), .pick (.t 102) (.t 105) (.k (.c (.bool false))), none⟩,
  ⟨(some 6), .mv (.t 106), none⟩]
def c_rotalaw03_FrameBlind : IC := (.seq (.ops o_rotalaw03_FrameBlind_0) (.seq (.ops o_rotalaw03_FrameBlind_1) (.seq (.ops o_rotalaw03_FrameBlind_2) (.seq (.ops o_rotalaw03_FrameBlind_3) (.seq (.ops o_rotalaw03_FrameBlind_4) (.seq (.ops o_rotalaw03_FrameBlind_5) (.seq (.ops o_rotalaw03_FrameBlind_6) (.seq (.seq (.ops o_rotalaw03_FrameBlind_7) (.cond (.t 43) (.seq (.ops o_rotalaw03_FrameBlind_8) .ret) .skip)) (.seq (.seq (.ops o_rotalaw03_FrameBlind_9) (.block 0 (.loop b_rotalaw03_FrameBlind_14))) (.seq (.ops o_rotalaw03_FrameBlind_15) (.seq (.ops o_rotalaw03_FrameBlind_16) (.seq (.ops o_rotalaw03_FrameBlind_17) (.seq (.ops o_rotalaw03_FrameBlind_18) (.seq (.ops o_rotalaw03_FrameBlind_19) .ret))))))))))))))
def i_rotalaw03_FrameBlind : IFn := ⟨107, c_rotalaw03_FrameBlind, [(6, none)]⟩

-- F 11 rota/rotaref03.Encode: bads 0, calls [20, 21]
abbrev o_rotaref03_Encode_0 : List IOper := [⟨(some 1), .box 27 (.t 0), none⟩,
  ⟨(some 2), .mv (.k (.c (.sl none 0 0 false))), none⟩,
  ⟨(some 3), .mv (.k (.c (.int .i64 0))), none⟩]
abbrev o_rotaref03_Encode_1 : List IOper := [⟨(some 6), .fa 0 (.t 1), none⟩,
  ⟨(some 7), .ld none (.t 6), none⟩,
  ⟨(some 8), .bin .lss (.t 7) (.k (.c (.int .i64 0))), none⟩,
  ⟨(some 9), .mv (.t 8), none⟩,
  ⟨(some 10), .fa 0 (.t 1), some (9, false)⟩,
  ⟨(some 11), .ld none (.t 10), some (9, false)⟩,
  ⟨(some 12), .bin .gtr (.t 11) (.k (.c (.int .i64 15))), some (9, false)⟩,
  ⟨(some 13), .pick (.t 9) (.k (.c (.bool true))) (.t 12), none⟩,
  ⟨(some 14), .mv (.t 13), none⟩,
  ⟨(some 15), .fa 1 (.t 1), some (14, false)⟩,
  ⟨(some 16), .fa 0 (.t 15), some (14, false)⟩,
  ⟨(some 17), .ld none (.t 16), some (14, false)⟩,
  ⟨(some 18), .bin .lss (.t 17) (.k (.c (.int .i64 0))), some (14, false)⟩,
  ⟨(some 19), .pick (.t 14) (.k (.c (.bool true))) (.t 18), none⟩,
  ⟨(some 20), .mv (.t 19), none⟩,
  ⟨(some 21), .fa 1 (.t 1), some (20, false)⟩,
  ⟨(some 22), .fa 0 (.t 21), some (20, false)⟩,
  ⟨(some 23), .ld none (.t 22), some (20, false)⟩,
  ⟨(some 24), .bin .gtr (.t 23) (.k (.c (.int .i64 2147483647))), some (20, false)⟩,
  ⟨(some 25), .pick (.t 20) (.k (.c (.bool true))) (.t 24), none⟩]
abbrev o_rotaref03_Encode_2 : List IOper := [⟨(some 2), .mv (.k (.c (.sl none 0 0 false))), none⟩,
  ⟨(some 3), .mv (.k (.c (.int .i64 2))), none⟩]
abbrev o_rotaref03_Encode_3 : List IOper := [⟨(some 29), .fa 0 (.t 1), none⟩,
  ⟨(some 30), .ld none (.t 29), none⟩,
  ⟨(some 31), .cv .u8 (.t 30), none⟩,
  ⟨(some 26), .fa 1 (.t 1), none⟩,
  ⟨(some 27), .ld (some 2) (.t 26), none⟩,
  ⟨(some 28), .call (.k (.c (.fn fn_rotaref03_State [] []))) [(.t 27)], none⟩,
  ⟨none, .same (some none) (.t 29) (.t 30), none⟩,
  ⟨(some 32), .bsl 5 1 [(.int .u8 0)] [(0, 1, (.t 31))], none⟩,
  ⟨(some 33), .app 5 1 1 (.t 28) (.t 32), none⟩,
  ⟨(some 4), .mv (.t 33), none⟩]
abbrev o_rotaref03_Encode_4 : List IOper := [⟨(some 34), .mv (.t 4), none⟩,
  ⟨(some 35), .fa 3 (.t 1), none⟩,
  ⟨(some 36), .slA 64 1 (.t 35) none none none, none⟩,
  ⟨(some 37), .app 5 1 1 (.t 34) (.t 36), none⟩,
  ⟨(some 4), .mv (.t 37), none⟩]
abbrev o_rotaref03_Encode_5 : List IOper := [⟨(some 38), .mv (.t 4), none⟩,
  ⟨(some 39), .call (.k (.c (.fn fn_rotaref01_Sum [] []))) [(.t 38)], none⟩,
  ⟨(some 5), .mv (.t 39), none⟩]
abbrev o_rotaref03_Encode_6 : List IOper := [⟨(some 40), .mv (.t 4), none⟩,
  ⟨(some 41), .mv (.t 5), none⟩,
  ⟨(some 42), .bin .rem (.t 41) (.k (.c (.int .u32 256))), none⟩,
  ⟨(some 43), .cv .u8 (.t 42), none⟩,
  ⟨(some 44), .mv (.t 5), none⟩,
  ⟨(some 45), .bin .quo (.t 44) (.k (.c (.int .u32 256))), none⟩,
  ⟨(some 46), .bin .rem (.t 45) (.k (.c (.int .u32 256))), none⟩,
  ⟨(some 47), .cv .u8 (.t 46), none⟩,
  ⟨(some 48), .mv (.t 5), none⟩,
  ⟨(some 49), .bin .quo (.t 48) (.k (.c (.int .u32 65536))), none⟩,
  ⟨(some 50), .bin .rem (.t 49) (.k (.c (.int .u32 256))), none⟩,
  ⟨(some 51), .cv .u8 (.t 50), none⟩,
  ⟨(some 52), .mv (.t 5), none⟩,
  ⟨(some 53), .bin .quo (.t 52) (.k (.c (.int .u32 16777216))), none⟩,
  ⟨(some 54), .cv .u8 (.t 53), none⟩,
  ⟨(some 55), .bsl 5 4 (List.replicate 4 (.int .u8 0)) [(0, 1, (.t 43)), (1, 1, (.t 47)), (2, 1, (.t 51)), (3, 1, (.t 54))], none⟩,
  ⟨(some 56), .app 5 1 1 (.t 40) (.t 55), none⟩,
  ⟨(some 2), .mv (.t 56), none⟩,
  ⟨(some 3), .mv (.k (.c (.int .i64 0))), none⟩]
def c_rotaref03_Encode : IC := (.seq (.ops o_rotaref03_Encode_0) (.seq (.seq (.ops o_rotaref03_Encode_1) (.cond (.t 25) (.seq (.ops o_rotaref03_Encode_2) .ret) .skip)) (.seq (.ops o_rotaref03_Encode_3) (.seq (.ops o_rotaref03_Encode_4) (.seq (.ops o_rotaref03_Encode_5) (.seq (.ops o_rotaref03_Encode_6) .ret))))))
def i_rotaref03_Encode : IFn := ⟨57, c_rotaref03_Encode, [(2, none), (3, none)]⟩

-- F 12 rota/frame.Encode: bads 0, calls [22, 23]
abbrev o_frame_Encode_0 : List IOper := [⟨(some 1), .box 27 (.t 0), none⟩,
  ⟨(some 2), .mv (.k (.c (.sl none 0 0 false))), none⟩,
  ⟨(some 3), .mv (.k (.c (.int .i64 0))), none⟩]
abbrev o_frame_Encode_1 : List IOper := [⟨(some 6), .fa 0 (.t 1), none⟩,
  ⟨(some 7), .ld none (.t 6), none⟩,
  ⟨(some 8), .bin .lss (.t 7) (.k (.c (.int .i64 0))), none⟩,
  ⟨(some 9), .mv (.t 8), none⟩,
  ⟨(some 10), .fa 0 (.t 1), some (9, false)⟩,
  ⟨(some 11), .ld none (.t 10), some (9, false)⟩,
  ⟨(some 12), .bin .geq (.t 11) (.k (.c (.int .i64 16))), some (9, false)⟩,
  ⟨(some 13), .pick (.t 9) (.k (.c (.bool true))) (.t 12), none⟩,
  ⟨(some 14), .mv (.t 13), none⟩,
  ⟨(some 15), .fa 1 (.t 1), some (14, false)⟩,
  ⟨(some 16), .fa 0 (.t 15), some (14, false)⟩,
  ⟨(some 17), .ld none (.t 16), some (14, false)⟩,
  ⟨(some 18), .bin .lss (.t 17) (.k (.c (.int .i64 0))), some (14, false)⟩,
  ⟨(some 19), .pick (.t 14) (.k (.c (.bool true))) (.t 18), none⟩,
  ⟨(some 20), .mv (.t 19), none⟩,
  ⟨(some 21), .fa 1 (.t 1), some (20, false)⟩,
  ⟨(some 22), .fa 0 (.t 21), some (20, false)⟩,
  ⟨(some 23), .ld none (.t 22), some (20, false)⟩,
  ⟨(some 24), .bin .gtr (.t 23) (.k (.c (.int .i64 2147483647))), some (20, false)⟩,
  ⟨(some 25), .pick (.t 20) (.k (.c (.bool true))) (.t 24), none⟩]
abbrev o_frame_Encode_2 : List IOper := [⟨(some 2), .mv (.k (.c (.sl none 0 0 false))), none⟩,
  ⟨(some 3), .mv (.k (.c (.int .i64 2))), none⟩]
abbrev o_frame_Encode_3 : List IOper := [⟨(some 34), .fa 3 (.t 1), none⟩,
  ⟨(some 35), .slA 64 1 (.t 34) none none none, none⟩,
  ⟨(some 29), .fa 0 (.t 1), none⟩,
  ⟨(some 30), .ld none (.t 29), none⟩,
  ⟨(some 31), .cv .u8 (.t 30), none⟩,
  ⟨(some 26), .fa 1 (.t 1), none⟩,
  ⟨(some 27), .ld (some 2) (.t 26), none⟩,
  ⟨(some 28), .call (.k (.c (.fn fn_frame_state [] []))) [(.t 27)], none⟩,
  ⟨none, .same (some none) (.t 29) (.t 30), none⟩,
  ⟨(some 32), .bsl 5 1 [(.int .u8 0)] [(0, 1, (.t 31))], none⟩,
  ⟨(some 33), .app 5 1 1 (.t 28) (.t 32), none⟩,
  ⟨(some 36), .app 5 1 1 (.t 33) (.t 35), none⟩,
  ⟨(some 4), .mv (.t 36), none⟩]
abbrev o_frame_Encode_4 : List IOper := [⟨(some 37), .mv (.t 4), none⟩,
  ⟨(some 38), .call (.k (.c (.fn fn_sum_Sum [] []))) [(.t 37)], none⟩,
  ⟨(some 5), .mv (.t 38), none⟩]
abbrev o_frame_Encode_5 : List IOper := [⟨(some 39), .mv (.t 4), none⟩,
  ⟨(some 40), .mv (.t 5), none⟩,
  ⟨(some 41), .cv .u8 (.t 40), none⟩,
  ⟨(some 42), .mv (.t 5), none⟩,
  ⟨(some 43), .bin .shr (.t 42) (.k (.c (.int .u64 8))), none⟩,
  ⟨(some 44), .cv .u8 (.t 43), none⟩,
  ⟨(some 45), .mv (.t 5), none⟩,
  ⟨(some 46), .bin .shr (.t 45) (.k (.c (.int .u64 16))), none⟩,
  ⟨(some 47), .cv .u8 (.t 46), none⟩,
  ⟨(some 48), .mv (.t 5), none⟩,
  ⟨(some 49), .bin .shr (.t 48) (.k (.c (.int .u64 24))), none⟩,
  ⟨(some 50), .cv .u8 (.t 49), none⟩,
  ⟨(some 51), .bsl 5 4 (List.replicate 4 (.int .u8 0)) [(0, 1, (.t 41)), (1, 1, (.t 44)), (2, 1, (.t 47)), (3, 1, (.t 50))], none⟩,
  ⟨(some 52), .app 5 1 1 (.t 39) (.t 51), none⟩,
  ⟨(some 2), .mv (.t 52), none⟩,
  ⟨(some 3), .mv (.k (.c (.int .i64 0))), none⟩]
def c_frame_Encode : IC := (.seq (.ops o_frame_Encode_0) (.seq (.seq (.ops o_frame_Encode_1) (.cond (.t 25) (.seq (.ops o_frame_Encode_2) .ret) .skip)) (.seq (.ops o_frame_Encode_3) (.seq (.ops o_frame_Encode_4) (.seq (.ops o_frame_Encode_5) .ret)))))
def i_frame_Encode : IFn := ⟨53, c_frame_Encode, [(2, none), (3, none)]⟩

-- F 13 rota/rotalaw03.alive: bads 0, calls [12, 16, 16, 16]
abbrev o_rotalaw03_alive_0 : List IOper := [⟨(some 0), .mv (.k (.c (.bool false))), none⟩]
abbrev o_rotalaw03_alive_1 : List IOper := [⟨(some 10), .build [(.int .i64 0), (.int .u16 0)] [(0, 1, (.k (.c (.int .i64 258)))), (1, 1, (.k (.c (.int .u16 5))))], none⟩,
  ⟨(some 11), .build (List.replicate 2 (.int .i64 0) ++ [(.int .u16 0)] ++ List.replicate 64 (.int .u8 0)) [(0, 1, (.k (.c (.int .i64 3)))), (1, 2, (.t 10))], none⟩,
  ⟨(some 1), .new 27 (.agg (List.replicate 2 (.int .i64 0) ++ [(.int .u16 0)] ++ List.replicate 64 (.int .u8 0))), none⟩,
  ⟨none, .st 67 (.t 1) (.t 11), none⟩]
abbrev o_rotalaw03_alive_2 : List IOper := [⟨(some 13), .ld (some 67) (.t 1), none⟩,
  ⟨(some 14), .call (.k (.c (.fn fn_frame_Encode [] []))) [(.t 13)], none⟩,
  ⟨(some 12), .mv (.t 14), none⟩,
  ⟨(some 15), .ext (.t 12) 0, none⟩,
  ⟨(some 16), .ext (.t 12) 1, none⟩,
  ⟨(some 2), .mv (.t 15), none⟩,
  ⟨(some 3), .mv (.t 16), none⟩]
abbrev o_rotalaw03_alive_3 : List IOper := [⟨(some 18), .mv (.t 2), none⟩,
  ⟨(some 19), .fa 1 (.t 1), none⟩,
  ⟨(some 20), .ld (some 2) (.t 19), none⟩,
  ⟨(some 21), .call (.k (.c (.fn fn_frame_Accept [] []))) [(.t 18), (.k (.c (.int .i64 3))), (.t 20)], none⟩,
  ⟨(some 17), .mv (.t 21), none⟩,
  ⟨(some 22), .ext (.t 17) 0, none⟩,
  ⟨(some 23), .ext (.t 17) 1, none⟩,
  ⟨(some 4), .new 27 (.agg (List.replicate 2 (.int .i64 0) ++ [(.int .u16 0)] ++ List.replicate 64 (.int .u8 0))), none⟩,
  ⟨none, .st 67 (.t 4) (.t 22), none⟩,
  ⟨(some 5), .mv (.t 23), none⟩]
abbrev o_rotalaw03_alive_4 : List IOper := [⟨(some 25), .mv (.t 2), none⟩,
  ⟨(some 26), .fa 1 (.t 1), none⟩,
  ⟨(some 27), .ld (some 2) (.t 26), none⟩,
  ⟨(some 28), .call (.k (.c (.fn fn_frame_Accept [] []))) [(.t 25), (.k (.c (.int .i64 2))), (.t 27)], none⟩,
  ⟨(some 24), .mv (.t 28), none⟩,
  ⟨(some 29), .ext (.t 24) 0, none⟩,
  ⟨(some 30), .ext (.t 24) 1, none⟩,
  ⟨(some 6), .new 27 (.agg (List.replicate 2 (.int .i64 0) ++ [(.int .u16 0)] ++ List.replicate 64 (.int .u8 0))), none⟩,
  ⟨none, .st 67 (.t 6) (.t 29), none⟩,
  ⟨(some 7), .mv (.t 30), none⟩]
abbrev o_rotalaw03_alive_5 : List IOper := [⟨(some 32), .mv (.t 2), none⟩,
  ⟨(some 33), .build [(.int .i64 0), (.int .u16 0)] [(0, 1, (.k (.c (.int .i64 259)))), (1, 1, (.k (.c (.int .u16 5))))], none⟩,
  ⟨(some 34), .call (.k (.c (.fn fn_frame_Accept [] []))) [(.t 32), (.k (.c (.int .i64 3))), (.t 33)], none⟩,
  ⟨(some 31), .mv (.t 34), none⟩,
  ⟨(some 35), .ext (.t 31) 0, none⟩,
  ⟨(some 36), .ext (.t 31) 1, none⟩,
  ⟨(some 8), .new 27 (.agg (List.replicate 2 (.int .i64 0) ++ [(.int .u16 0)] ++ List.replicate 64 (.int .u8 0))), none⟩,
  ⟨none, .st 67 (.t 8) (.t 35), none⟩,
  ⟨(some 9), .mv (.t 36), none⟩]
abbrev o_rotalaw03_alive_6 : List IOper := [⟨(some 37), .mv (.t 3), none⟩,
  ⟨(some 38), .bin .eql (.t 37) (.k (.c (.int .i64 0))), none⟩,
  ⟨(some 39), .mv (.t 38), none⟩,
  ⟨(some 40), .mv (.t 2), some (39, true)⟩,
  ⟨(some 41), .len false (.t 40), some (39, true)⟩,
  ⟨(some 42), .bin .eql (.t 41) (.k (.c (.int .i64 75))), some (39, true)⟩,
  ⟨(some 43), .pick (.t 39) (.t 42) (.k (.c (.bool false))), none⟩,
  ⟨(some 44), .mv (.t 43), none⟩,
  ⟨(some 45), .mv (.t 2), some (44, true)⟩,
  ⟨(some 46), .slS 1 (.t 45) none (some (.k (.c (.int .i64 7)))) none, some (44, true)⟩,
  ⟨(some 47), .b2s (.t 46), some (44, true)⟩,
  ⟨(some 48), .bin .eql (.t 47) (.k (.c (.str ⟨#[0, 0, 1, 2, 0, 5, 3]⟩))), some (44, true)⟩,
  ⟨(some 49), .pick (.t 44) (.t 48) (.k (.c (.bool false))), none⟩,
  ⟨(some 50), .mv (.t 49), none⟩,
  ⟨(some 51), .ld (some 67) (.t 4), some (50, true)⟩,
  ⟨(some 52), .ld (some 67) (.t 1), some (50, true)⟩,
  ⟨(some 53), .eqagg [.int, .int, .int, .int, .int, .int, .int, .int, .int, .int, .int, .int, .int, .int, .int, .int, .int, .int, .int, .int, .int, .int, .int, .int, .int, .int, .int, .int, .int, .int, .int, .int, .int, .int, .int, .int, .int, .int, .int, .int, .int, .int, .int, .int, .int, .int, .int, .int, .int, .int, .int, .int, .int, .int, .int, .int, .int, .int, .int, .int, .int, .int, .int, .int, .int, .int, .int] false (.t 51) (.t 52), some (50, true)⟩,
  ⟨(some 54), .pick (.t 50) (.t 53) (.k (.c (.bool false))), none⟩,
  ⟨(some 55), .mv (.t 54), none⟩,
  ⟨(some 56), .mv (.t 5), some (55, true)⟩,
  ⟨(some 57), .bin .eql (.t 56) (.k (.c (.int .i64 0))), some (55, true)⟩,
  ⟨(some 58), .pick (.t 55) (.t 57) (.k (.c (.bool false))), none⟩,
  ⟨(some 59), .mv (.t 58), none⟩,
  ⟨(some 60), .mv (.t 7), some (59, true)⟩,
  ⟨(some 61), .bin .eql (.t 60) (.k (.c (.int .i64 30))), some (59, true)⟩,
  ⟨(some 62), .pick (.t 59) (.t 61) (.k (.c (.bool false))), none⟩,
  ⟨(some 63), .mv (.t 62), none⟩,
  ⟨(some 64), .mv (.t 9), some (63, true)⟩,
  ⟨(some 65), .bin .eql (.t 64) (.k (.c (.int .i64 31))), some (63, true)⟩,
  ⟨(some 66), .pick (.t 63) (.t 65) (.k (.c (.bool false))), none⟩,
  ⟨(some 0), .mv (.t 66), none⟩]
def c_rotalaw03_alive : IC := (.seq (.ops o_rotalaw03_alive_0) (.seq (.ops o_rotalaw03_alive_1) (.seq (.ops o_rotalaw03_alive_2) (.seq (.ops o_rotalaw03_alive_3) (.seq (.ops o_rotalaw03_alive_4) (.seq (.ops o_rotalaw03_alive_5) (.seq (.ops o_rotalaw03_alive_6) .ret)))))))
def i_rotalaw03_alive : IFn := ⟨67, c_rotalaw03_alive, [(0, none)]⟩

-- F 14 rota/rotalaw03.right: bads 0, calls []
abbrev o_rotalaw03_right_0 : List IOper := [⟨(some 1), .box 27 (.t 0), none⟩,
  ⟨(some 2), .new 27 (.agg (List.replicate 2 (.int .i64 0) ++ [(.int .u16 0)] ++ List.replicate 64 (.int .u8 0))), none⟩]
abbrev o_rotalaw03_right_1 : List IOper := [⟨(some 3), .fa 0 (.t 1), none⟩,
  ⟨(some 4), .ld none (.t 3), none⟩,
  ⟨(some 5), .bin .and (.t 4) (.k (.c (.int .i64 15))), none⟩,
  ⟨(some 6), .fa 0 (.t 1), none⟩,
  ⟨none, .st 1 (.t 6) (.t 5), none⟩]
abbrev o_rotalaw03_right_2 : List IOper := [⟨(some 7), .fa 1 (.t 1), none⟩,
  ⟨(some 8), .fa 0 (.t 7), none⟩,
  ⟨(some 9), .ld none (.t 8), none⟩,
  ⟨(some 10), .bin .and (.t 9) (.k (.c (.int .i64 2147483647))), none⟩,
  ⟨(some 11), .fa 1 (.t 1), none⟩,
  ⟨(some 12), .fa 0 (.t 11), none⟩,
  ⟨none, .st 1 (.t 12) (.t 10), none⟩]
abbrev o_rotalaw03_right_3 : List IOper := [⟨(some 13), .ld (some 67) (.t 1), none⟩,
  ⟨none, .st 67 (.t 2) (.t 13), none⟩]
def c_rotalaw03_right : IC := (.seq (.ops o_rotalaw03_right_0) (.seq (.ops o_rotalaw03_right_1) (.seq (.ops o_rotalaw03_right_2) (.seq (.ops o_rotalaw03_right_3) .ret))))
def i_rotalaw03_right : IFn := ⟨14, c_rotalaw03_right, [(2, (some (some 67)))]⟩

-- F 15 rota/frame.Decode: bads 0, calls [24, 23, 25]
abbrev o_frame_Decode_0 : List IOper := [⟨(some 2), .new 27 (.agg (List.replicate 2 (.int .i64 0) ++ [(.int .u16 0)] ++ List.replicate 64 (.int .u8 0))), none⟩,
  ⟨(some 3), .mv (.k (.c (.int .i64 0))), none⟩]
abbrev o_frame_Decode_1 : List IOper := [⟨(some 7), .mv (.t 0), none⟩,
  ⟨(some 8), .call (.k (.c (.fn fn_frame_read [] []))) [(.t 7)], none⟩,
  ⟨(some 6), .mv (.t 8), none⟩,
  ⟨(some 9), .ext (.t 6) 0, none⟩,
  ⟨(some 10), .ext (.t 6) 1, none⟩,
  ⟨(some 4), .new 27 (.agg (List.replicate 2 (.int .i64 0) ++ [(.int .u16 0)] ++ List.replicate 64 (.int .u8 0))), none⟩,
  ⟨none, .st 67 (.t 4) (.t 9), none⟩,
  ⟨(some 5), .mv (.t 10), none⟩]
abbrev o_frame_Decode_2 : List IOper := [⟨(some 11), .mv (.t 5), none⟩,
  ⟨(some 12), .un .not (.t 11), none⟩]
abbrev o_frame_Decode_3 : List IOper := [⟨(some 13), .build (List.replicate 2 (.int .i64 0) ++ [(.int .u16 0)] ++ List.replicate 64 (.int .u8 0)) [], none⟩,
  ⟨none, .st 67 (.t 2) (.t 13), none⟩,
  ⟨(some 3), .mv (.k (.c (.int .i64 30))), none⟩]
abbrev o_frame_Decode_4 : List IOper := [⟨(some 14), .mv (.t 0), none⟩,
  ⟨(some 15), .mv (.t 0), none⟩,
  ⟨(some 16), .slS 1 (.t 15) none (some (.k (.c (.int .i64 71)))) none, none⟩,
  ⟨(some 17), .call (.k (.c (.fn fn_sum_Sum [] []))) [(.t 16)], none⟩,
  ⟨(some 18), .call (.k (.c (.fn fn_frame_checked [] []))) [(.t 14), (.t 17)], none⟩,
  ⟨(some 19), .un .not (.t 18), none⟩]
abbrev o_frame_Decode_5 : List IOper := [⟨(some 20), .build (List.replicate 2 (.int .i64 0) ++ [(.int .u16 0)] ++ List.replicate 64 (.int .u8 0)) [], none⟩,
  ⟨none, .st 67 (.t 2) (.t 20), none⟩,
  ⟨(some 3), .mv (.k (.c (.int .i64 31))), none⟩]
abbrev o_frame_Decode_6 : List IOper := [⟨(some 21), .ld (some 67) (.t 4), none⟩,
  ⟨none, .st 67 (.t 2) (.t 21), none⟩,
  ⟨(some 3), .mv (.k (.c (.int .i64 0))), none⟩]
def c_frame_Decode : IC := (.seq (.ops o_frame_Decode_0) (.seq (.ops o_frame_Decode_1) (.seq (.seq (.ops o_frame_Decode_2) (.cond (.t 12) (.seq (.ops o_frame_Decode_3) .ret) .skip)) (.seq (.seq (.ops o_frame_Decode_4) (.cond (.t 19) (.seq (.ops o_frame_Decode_5) .ret) .skip)) (.seq (.ops o_frame_Decode_6) .ret)))))
def i_frame_Decode : IFn := ⟨22, c_frame_Decode, [(2, (some (some 67))), (3, none)]⟩

-- F 16 rota/frame.Accept: bads 0, calls [24, 22, 23, 26, 25]
abbrev o_frame_Accept_0 : List IOper := [⟨(some 5), .box 24 (.t 2), none⟩,
  ⟨(some 6), .new 27 (.agg (List.replicate 2 (.int .i64 0) ++ [(.int .u16 0)] ++ List.replicate 64 (.int .u8 0))), none⟩,
  ⟨(some 7), .mv (.k (.c (.int .i64 0))), none⟩]
abbrev o_frame_Accept_1 : List IOper := [⟨(some 11), .mv (.t 0), none⟩,
  ⟨(some 12), .call (.k (.c (.fn fn_frame_read [] []))) [(.t 11)], none⟩,
  ⟨(some 10), .mv (.t 12), none⟩,
  ⟨(some 13), .ext (.t 10) 0, none⟩,
  ⟨(some 14), .ext (.t 10) 1, none⟩,
  ⟨(some 8), .new 27 (.agg (List.replicate 2 (.int .i64 0) ++ [(.int .u16 0)] ++ List.replicate 64 (.int .u8 0))), none⟩,
  ⟨none, .st 67 (.t 8) (.t 13), none⟩,
  ⟨(some 9), .mv (.t 14), none⟩]
abbrev o_frame_Accept_2 : List IOper := [⟨(some 15), .mv (.t 9), none⟩,
  ⟨(some 16), .un .not (.t 15), none⟩]
abbrev o_frame_Accept_3 : List IOper := [⟨(some 17), .build (List.replicate 2 (.int .i64 0) ++ [(.int .u16 0)] ++ List.replicate 64 (.int .u8 0)) [], none⟩,
  ⟨none, .st 67 (.t 6) (.t 17), none⟩,
  ⟨(some 7), .mv (.k (.c (.int .i64 30))), none⟩]
abbrev o_frame_Accept_4 : List IOper := [⟨(some 18), .mv (.t 0), none⟩,
  ⟨(some 19), .ld (some 2) (.t 5), none⟩,
  ⟨(some 20), .call (.k (.c (.fn fn_frame_state [] []))) [(.t 19)], none⟩,
  ⟨(some 21), .call (.k (.c (.fn fn_sum_Sum [] []))) [(.t 20)], none⟩,
  ⟨(some 22), .mv (.t 0), none⟩,
  ⟨(some 23), .slS 1 (.t 22) (some (.k (.c (.int .i64 6)))) (some (.k (.c (.int .i64 71)))) none, none⟩,
  ⟨(some 24), .call (.k (.c (.fn fn_sum_More [] []))) [(.t 21), (.t 23)], none⟩,
  ⟨(some 25), .call (.k (.c (.fn fn_frame_checked [] []))) [(.t 18), (.t 24)], none⟩,
  ⟨(some 26), .un .not (.t 25), none⟩]
abbrev o_frame_Accept_5 : List IOper := [⟨(some 27), .build (List.replicate 2 (.int .i64 0) ++ [(.int .u16 0)] ++ List.replicate 64 (.int .u8 0)) [], none⟩,
  ⟨none, .st 67 (.t 6) (.t 27), none⟩,
  ⟨(some 7), .mv (.k (.c (.int .i64 31))), none⟩]
abbrev o_frame_Accept_6 : List IOper := [⟨(some 28), .fa 0 (.t 8), none⟩,
  ⟨(some 29), .ld none (.t 28), none⟩,
  ⟨(some 30), .mv (.t 1), none⟩,
  ⟨(some 31), .bin .neq (.t 29) (.t 30), none⟩,
  ⟨(some 32), .mv (.t 31), none⟩,
  ⟨(some 33), .fa 1 (.t 8), some (32, false)⟩,
  ⟨(some 34), .ld (some 2) (.t 33), some (32, false)⟩,
  ⟨(some 35), .ld (some 2) (.t 5), some (32, false)⟩,
  ⟨(some 36), .eqagg [.int, .int] true (.t 34) (.t 35), some (32, false)⟩,
  ⟨(some 37), .pick (.t 32) (.k (.c (.bool true))) (.t 36), none⟩]
abbrev o_frame_Accept_7 : List IOper := [⟨(some 38), .build (List.replicate 2 (.int .i64 0) ++ [(.int .u16 0)] ++ List.replicate 64 (.int .u8 0)) [], none⟩,
  ⟨none, .st 67 (.t 6) (.t 38), none⟩,
  ⟨(some 7), .mv (.k (.c (.int .i64 30))), none⟩]
abbrev o_frame_Accept_8 : List IOper := [⟨(some 39), .ld (some 67) (.t 8), none⟩,
  ⟨none, .st 67 (.t 6) (.t 39), none⟩,
  ⟨(some 7), .mv (.k (.c (.int .i64 0))), none⟩]
def c_frame_Accept : IC := (.seq (.ops o_frame_Accept_0) (.seq (.ops o_frame_Accept_1) (.seq (.seq (.ops o_frame_Accept_2) (.cond (.t 16) (.seq (.ops o_frame_Accept_3) .ret) .skip)) (.seq (.seq (.ops o_frame_Accept_4) (.cond (.t 26) (.seq (.ops o_frame_Accept_5) .ret) .skip)) (.seq (.seq (.ops o_frame_Accept_6) (.cond (.t 37) (.seq (.ops o_frame_Accept_7) .ret) .skip)) (.seq (.ops o_frame_Accept_8) .ret))))))
def i_frame_Accept : IFn := ⟨40, c_frame_Accept, [(6, (some (some 67))), (7, none)]⟩

-- F 17 rota/rotaref03.Decode: bads 0, calls [27, 28]
abbrev o_rotaref03_Decode_0 : List IOper := [⟨(some 2), .new 27 (.agg (List.replicate 2 (.int .i64 0) ++ [(.int .u16 0)] ++ List.replicate 64 (.int .u8 0))), none⟩,
  ⟨(some 3), .mv (.k (.c (.int .i64 0))), none⟩]
abbrev o_rotaref03_Decode_1 : List IOper := [⟨(some 7), .mv (.t 0), none⟩,
  ⟨(some 8), .call (.k (.c (.fn fn_rotaref03_told [] []))) [(.t 7)], none⟩,
  ⟨(some 6), .mv (.t 8), none⟩,
  ⟨(some 9), .ext (.t 6) 0, none⟩,
  ⟨(some 10), .ext (.t 6) 1, none⟩,
  ⟨(some 4), .new 27 (.agg (List.replicate 2 (.int .i64 0) ++ [(.int .u16 0)] ++ List.replicate 64 (.int .u8 0))), none⟩,
  ⟨none, .st 67 (.t 4) (.t 9), none⟩,
  ⟨(some 5), .mv (.t 10), none⟩]
abbrev o_rotaref03_Decode_2 : List IOper := [⟨(some 11), .mv (.t 5), none⟩,
  ⟨(some 12), .un .not (.t 11), none⟩]
abbrev o_rotaref03_Decode_3 : List IOper := [⟨(some 13), .build (List.replicate 2 (.int .i64 0) ++ [(.int .u16 0)] ++ List.replicate 64 (.int .u8 0)) [], none⟩,
  ⟨none, .st 67 (.t 2) (.t 13), none⟩,
  ⟨(some 3), .mv (.k (.c (.int .i64 30))), none⟩]
abbrev o_rotaref03_Decode_4 : List IOper := [⟨(some 14), .mv (.t 0), none⟩,
  ⟨(some 15), .mv (.t 0), none⟩,
  ⟨(some 16), .slS 1 (.t 15) none (some (.k (.c (.int .i64 71)))) none, none⟩,
  ⟨(some 17), .call (.k (.c (.fn fn_rotaref03_sealed [] []))) [(.t 14), (.t 16)], none⟩,
  ⟨(some 18), .un .not (.t 17), none⟩]
abbrev o_rotaref03_Decode_5 : List IOper := [⟨(some 19), .build (List.replicate 2 (.int .i64 0) ++ [(.int .u16 0)] ++ List.replicate 64 (.int .u8 0)) [], none⟩,
  ⟨none, .st 67 (.t 2) (.t 19), none⟩,
  ⟨(some 3), .mv (.k (.c (.int .i64 31))), none⟩]
abbrev o_rotaref03_Decode_6 : List IOper := [⟨(some 20), .ld (some 67) (.t 4), none⟩,
  ⟨none, .st 67 (.t 2) (.t 20), none⟩,
  ⟨(some 3), .mv (.k (.c (.int .i64 0))), none⟩]
def c_rotaref03_Decode : IC := (.seq (.ops o_rotaref03_Decode_0) (.seq (.ops o_rotaref03_Decode_1) (.seq (.seq (.ops o_rotaref03_Decode_2) (.cond (.t 12) (.seq (.ops o_rotaref03_Decode_3) .ret) .skip)) (.seq (.seq (.ops o_rotaref03_Decode_4) (.cond (.t 18) (.seq (.ops o_rotaref03_Decode_5) .ret) .skip)) (.seq (.ops o_rotaref03_Decode_6) .ret)))))
def i_rotaref03_Decode : IFn := ⟨21, c_rotaref03_Decode, [(2, (some (some 67))), (3, none)]⟩

-- F 18 rota/rotaref03.Accept: bads 0, calls [27, 20, 28]
abbrev o_rotaref03_Accept_0 : List IOper := [⟨(some 5), .box 24 (.t 2), none⟩,
  ⟨(some 6), .new 27 (.agg (List.replicate 2 (.int .i64 0) ++ [(.int .u16 0)] ++ List.replicate 64 (.int .u8 0))), none⟩,
  ⟨(some 7), .mv (.k (.c (.int .i64 0))), none⟩]
abbrev o_rotaref03_Accept_1 : List IOper := [⟨(some 12), .mv (.t 0), none⟩,
  ⟨(some 13), .call (.k (.c (.fn fn_rotaref03_told [] []))) [(.t 12)], none⟩,
  ⟨(some 11), .mv (.t 13), none⟩,
  ⟨(some 14), .ext (.t 11) 0, none⟩,
  ⟨(some 15), .ext (.t 11) 1, none⟩,
  ⟨(some 8), .new 27 (.agg (List.replicate 2 (.int .i64 0) ++ [(.int .u16 0)] ++ List.replicate 64 (.int .u8 0))), none⟩,
  ⟨none, .st 67 (.t 8) (.t 14), none⟩,
  ⟨(some 9), .mv (.t 15), none⟩]
abbrev o_rotaref03_Accept_2 : List IOper := [⟨(some 16), .mv (.t 9), none⟩,
  ⟨(some 17), .un .not (.t 16), none⟩]
abbrev o_rotaref03_Accept_3 : List IOper := [⟨(some 18), .build (List.replicate 2 (.int .i64 0) ++ [(.int .u16 0)] ++ List.replicate 64 (.int .u8 0)) [], none⟩,
  ⟨none, .st 67 (.t 6) (.t 18), none⟩,
  ⟨(some 7), .mv (.k (.c (.int .i64 30))), none⟩]
abbrev o_rotaref03_Accept_4 : List IOper := [⟨(some 19), .ld (some 2) (.t 5), none⟩,
  ⟨(some 20), .call (.k (.c (.fn fn_rotaref03_State [] []))) [(.t 19)], none⟩,
  ⟨(some 21), .mv (.t 0), none⟩,
  ⟨(some 22), .slS 1 (.t 21) (some (.k (.c (.int .i64 6)))) (some (.k (.c (.int .i64 71)))) none, none⟩,
  ⟨(some 23), .app 5 1 1 (.t 20) (.t 22), none⟩,
  ⟨(some 10), .mv (.t 23), none⟩]
abbrev o_rotaref03_Accept_5 : List IOper := [⟨(some 24), .mv (.t 0), none⟩,
  ⟨(some 25), .mv (.t 10), none⟩,
  ⟨(some 26), .call (.k (.c (.fn fn_rotaref03_sealed [] []))) [(.t 24), (.t 25)], none⟩,
  ⟨(some 27), .un .not (.t 26), none⟩]
abbrev o_rotaref03_Accept_6 : List IOper := [⟨(some 28), .build (List.replicate 2 (.int .i64 0) ++ [(.int .u16 0)] ++ List.replicate 64 (.int .u8 0)) [], none⟩,
  ⟨none, .st 67 (.t 6) (.t 28), none⟩,
  ⟨(some 7), .mv (.k (.c (.int .i64 31))), none⟩]
abbrev o_rotaref03_Accept_7 : List IOper := [⟨(some 29), .fa 0 (.t 8), none⟩,
  ⟨(some 30), .ld none (.t 29), none⟩,
  ⟨(some 31), .mv (.t 1), none⟩,
  ⟨(some 32), .bin .neq (.t 30) (.t 31), none⟩,
  ⟨(some 33), .mv (.t 32), none⟩,
  ⟨(some 34), .fa 1 (.t 8), some (33, false)⟩,
  ⟨(some 35), .ld (some 2) (.t 34), some (33, false)⟩,
  ⟨(some 36), .ld (some 2) (.t 5), some (33, false)⟩,
  ⟨(some 37), .eqagg [.int, .int] true (.t 35) (.t 36), some (33, false)⟩,
  ⟨(some 38), .pick (.t 33) (.k (.c (.bool true))) (.t 37), none⟩]
abbrev o_rotaref03_Accept_8 : List IOper := [⟨(some 39), .build (List.replicate 2 (.int .i64 0) ++ [(.int .u16 0)] ++ List.replicate 64 (.int .u8 0)) [], none⟩,
  ⟨none, .st 67 (.t 6) (.t 39), none⟩,
  ⟨(some 7), .mv (.k (.c (.int .i64 30))), none⟩]
abbrev o_rotaref03_Accept_9 : List IOper := [⟨(some 40), .ld (some 67) (.t 8), none⟩,
  ⟨none, .st 67 (.t 6) (.t 40), none⟩,
  ⟨(some 7), .mv (.k (.c (.int .i64 0))), none⟩]
def c_rotaref03_Accept : IC := (.seq (.ops o_rotaref03_Accept_0) (.seq (.ops o_rotaref03_Accept_1) (.seq (.seq (.ops o_rotaref03_Accept_2) (.cond (.t 17) (.seq (.ops o_rotaref03_Accept_3) .ret) .skip)) (.seq (.ops o_rotaref03_Accept_4) (.seq (.seq (.ops o_rotaref03_Accept_5) (.cond (.t 27) (.seq (.ops o_rotaref03_Accept_6) .ret) .skip)) (.seq (.seq (.ops o_rotaref03_Accept_7) (.cond (.t 38) (.seq (.ops o_rotaref03_Accept_8) .ret) .skip)) (.seq (.ops o_rotaref03_Accept_9) .ret)))))))
def i_rotaref03_Accept : IFn := ⟨41, c_rotaref03_Accept, [(6, (some (some 67))), (7, none)]⟩

-- F 19 rota/frame.Corrupt: bads 0, calls [29, 30]
abbrev o_frame_Corrupt_0 : List IOper := [⟨(some 3), .box 28 (.t 0), none⟩,
  ⟨(some 4), .box 3 (.t 1), none⟩,
  ⟨(some 6), .mv (.k (.c (.sl none 0 0 false))), none⟩]
abbrev o_frame_Corrupt_1 : List IOper := [⟨(some 10), .ld none (.t 3), none⟩,
  ⟨(some 11), .call (.k (.c (.fn fn_slices_Clone_byte_byte [] []))) [(.t 10)], none⟩,
  ⟨(some 7), .new 28 (.c (.sl none 0 0 false)), none⟩,
  ⟨none, .st 1 (.t 7) (.t 11), none⟩]
abbrev o_frame_Corrupt_2 : List IOper := [⟨(some 12), .ld none (.t 4), none⟩,
  ⟨(some 13), .bin .lss (.t 12) (.k (.c (.int .i64 (-32)))), none⟩,
  ⟨(some 14), .mv (.t 13), none⟩,
  ⟨(some 15), .ld none (.t 4), some (14, false)⟩,
  ⟨(some 16), .ld none (.t 3), some (14, false)⟩,
  ⟨(some 17), .len false (.t 16), some (14, false)⟩,
  ⟨(some 18), .bin .mul (.k (.c (.int .i64 8))) (.t 17), some (14, false)⟩,
  ⟨(some 19), .bin .gtr (.t 15) (.t 18), some (14, false)⟩,
  ⟨(some 20), .pick (.t 14) (.k (.c (.bool true))) (.t 19), none⟩]
abbrev o_frame_Corrupt_3 : List IOper := [⟨(some 21), .ld none (.t 7), none⟩,
  ⟨(some 6), .mv (.t 21), none⟩]
abbrev o_frame_Corrupt_4 : List IOper := [⟨(some 22), .mv (.t 2), none⟩,
  ⟨(some 23), .call (.k (.c (.fn fn_frame_bits [] []))) [(.t 22)], none⟩]
abbrev o_frame_Corrupt_5 : List IOper := [⟨(some 8), .mv (.t 24), none⟩]
abbrev o_frame_Corrupt_6 : List IOper := [⟨(some 25), .ld none (.t 4), none⟩,
  ⟨(some 26), .mv (.t 8), none⟩,
  ⟨(some 27), .bin .add (.t 25) (.t 26), none⟩,
  ⟨(some 9), .mv (.t 27), none⟩]
abbrev o_frame_Corrupt_7 : List IOper := [⟨(some 28), .mv (.t 9), none⟩,
  ⟨(some 29), .bin .geq (.t 28) (.k (.c (.int .i64 0))), none⟩,
  ⟨(some 30), .mv (.t 29), none⟩,
  ⟨(some 31), .mv (.t 9), some (30, true)⟩,
  ⟨(some 32), .ld none (.t 3), some (30, true)⟩,
  ⟨(some 33), .len false (.t 32), some (30, true)⟩,
  ⟨(some 34), .bin .mul (.k (.c (.int .i64 8))) (.t 33), some (30, true)⟩,
  ⟨(some 35), .bin .lss (.t 31) (.t 34), some (30, true)⟩,
  ⟨(some 36), .pick (.t 30) (.t 35) (.k (.c (.bool false))), none⟩]
abbrev o_frame_Corrupt_8 : List IOper := [⟨(some 37), .ld none (.t 7), none⟩,
  ⟨(some 38), .mv (.t 9), none⟩,
  ⟨(some 39), .bin .quo (.t 38) (.k (.c (.int .i64 8))), none⟩,
  ⟨(some 40), .iaS 1 (.t 37) (.t 39), none⟩,
  ⟨(some 41), .ld none (.t 40), none⟩,
  ⟨(some 42), .mv (.t 9), none⟩,
  ⟨(some 43), .bin .rem (.t 42) (.k (.c (.int .i64 8))), none⟩,
  ⟨(some 44), .bin .shl (.k (.c (.int .u8 1))) (.t 43), none⟩,
  ⟨(some 45), .bin .xor (.t 41) (.t 44), none⟩,
  ⟨(some 46), .iaS 1 (.t 37) (.t 39), none⟩,
  ⟨none, .st 1 (.t 46) (.t 45), none⟩]
def a_frame_Corrupt_9 : IC := (.ops o_frame_Corrupt_5)
def b_frame_Corrupt_10 : IC := (.block 1 (.seq (.ops o_frame_Corrupt_6) (.seq (.ops o_frame_Corrupt_7) (.cond (.t 36) (.ops o_frame_Corrupt_8) .skip))))
abbrev o_frame_Corrupt_11 : List IOper := [⟨(some 47), .ld none (.t 7), none⟩,
  ⟨(some 6), .mv (.t 47), none⟩]
def c_frame_Corrupt : IC := (.seq (.ops o_frame_Corrupt_0) (.seq (.ops o_frame_Corrupt_1) (.seq (.seq (.ops o_frame_Corrupt_2) (.cond (.t 20) (.seq (.ops o_frame_Corrupt_3) .ret) .skip)) (.seq (.seq (.ops o_frame_Corrupt_4) (.block 0 (.rangeF (.t 23) [24] a_frame_Corrupt_9 b_frame_Corrupt_10))) (.seq (.ops o_frame_Corrupt_11) .ret)))))
def i_frame_Corrupt : IFn := ⟨48, c_frame_Corrupt, [(6, none)]⟩

-- F 20 rota/rotaref03.State: bads 0, calls []
abbrev o_rotaref03_State_0 : List IOper := [⟨(some 1), .box 24 (.t 0), none⟩,
  ⟨(some 2), .mv (.k (.c (.sl none 0 0 false))), none⟩]
abbrev o_rotaref03_State_1 : List IOper := [⟨(some 4), .fa 0 (.t 1), none⟩,
  ⟨(some 5), .ld none (.t 4), none⟩,
  ⟨(some 6), .cv .u32 (.t 5), none⟩,
  ⟨(some 3), .mv (.t 6), none⟩]
abbrev o_rotaref03_State_2 : List IOper := [⟨(some 7), .mv (.t 3), none⟩,
  ⟨(some 8), .bin .quo (.t 7) (.k (.c (.int .u32 16777216))), none⟩,
  ⟨(some 9), .cv .u8 (.t 8), none⟩,
  ⟨(some 10), .mv (.t 3), none⟩,
  ⟨(some 11), .bin .quo (.t 10) (.k (.c (.int .u32 65536))), none⟩,
  ⟨(some 12), .bin .rem (.t 11) (.k (.c (.int .u32 256))), none⟩,
  ⟨(some 13), .cv .u8 (.t 12), none⟩,
  ⟨(some 14), .mv (.t 3), none⟩,
  ⟨(some 15), .bin .quo (.t 14) (.k (.c (.int .u32 256))), none⟩,
  ⟨(some 16), .bin .rem (.t 15) (.k (.c (.int .u32 256))), none⟩,
  ⟨(some 17), .cv .u8 (.t 16), none⟩,
  ⟨(some 18), .mv (.t 3), none⟩,
  ⟨(some 19), .bin .rem (.t 18) (.k (.c (.int .u32 256))), none⟩,
  ⟨(some 20), .cv .u8 (.t 19), none⟩,
  ⟨(some 21), .fa 1 (.t 1), none⟩,
  ⟨(some 22), .ld none (.t 21), none⟩,
  ⟨(some 23), .bin .quo (.t 22) (.k (.c (.int .u16 256))), none⟩,
  ⟨(some 24), .cv .u8 (.t 23), none⟩,
  ⟨(some 25), .fa 1 (.t 1), none⟩,
  ⟨(some 26), .ld none (.t 25), none⟩,
  ⟨(some 27), .bin .rem (.t 26) (.k (.c (.int .u16 256))), none⟩,
  ⟨(some 28), .cv .u8 (.t 27), none⟩,
  ⟨(some 29), .bsl 5 6 (List.replicate 6 (.int .u8 0)) [(0, 1, (.t 9)), (1, 1, (.t 13)), (2, 1, (.t 17)), (3, 1, (.t 20)), (4, 1, (.t 24)), (5, 1, (.t 28))], none⟩,
  ⟨(some 2), .mv (.t 29), none⟩]
def c_rotaref03_State : IC := (.seq (.ops o_rotaref03_State_0) (.seq (.ops o_rotaref03_State_1) (.seq (.ops o_rotaref03_State_2) .ret)))
def i_rotaref03_State : IFn := ⟨30, c_rotaref03_State, [(2, none)]⟩

-- F 21 rota/rotaref01.Sum: bads 0, calls [31]
abbrev o_rotaref01_Sum_0 : List IOper := [⟨(some 2), .mv (.k (.c (.int .u32 0))), none⟩]
abbrev o_rotaref01_Sum_1 : List IOper := [⟨(some 3), .mv (.t 0), none⟩,
  ⟨(some 4), .call (.k (.c (.fn fn_rotaref01_More [] []))) [(.k (.c (.int .u32 0))), (.t 3)], none⟩,
  ⟨(some 2), .mv (.t 4), none⟩]
def c_rotaref01_Sum : IC := (.seq (.ops o_rotaref01_Sum_0) (.seq (.ops o_rotaref01_Sum_1) .ret))
def i_rotaref01_Sum : IFn := ⟨5, c_rotaref01_Sum, [(2, none)]⟩

-- F 22 rota/frame.state: bads 0, calls []
abbrev o_frame_state_0 : List IOper := [⟨(some 1), .box 24 (.t 0), none⟩,
  ⟨(some 2), .mv (.k (.c (.sl none 0 0 false))), none⟩]
abbrev o_frame_state_1 : List IOper := [⟨(some 4), .fa 0 (.t 1), none⟩,
  ⟨(some 5), .ld none (.t 4), none⟩,
  ⟨(some 6), .cv .u32 (.t 5), none⟩,
  ⟨(some 3), .mv (.t 6), none⟩]
abbrev o_frame_state_2 : List IOper := [⟨(some 7), .mv (.t 3), none⟩,
  ⟨(some 8), .bin .shr (.t 7) (.k (.c (.int .u64 24))), none⟩,
  ⟨(some 9), .cv .u8 (.t 8), none⟩,
  ⟨(some 10), .mv (.t 3), none⟩,
  ⟨(some 11), .bin .shr (.t 10) (.k (.c (.int .u64 16))), none⟩,
  ⟨(some 12), .cv .u8 (.t 11), none⟩,
  ⟨(some 13), .mv (.t 3), none⟩,
  ⟨(some 14), .bin .shr (.t 13) (.k (.c (.int .u64 8))), none⟩,
  ⟨(some 15), .cv .u8 (.t 14), none⟩,
  ⟨(some 16), .mv (.t 3), none⟩,
  ⟨(some 17), .cv .u8 (.t 16), none⟩,
  ⟨(some 18), .fa 1 (.t 1), none⟩,
  ⟨(some 19), .ld none (.t 18), none⟩,
  ⟨(some 20), .bin .shr (.t 19) (.k (.c (.int .u64 8))), none⟩,
  ⟨(some 21), .cv .u8 (.t 20), none⟩,
  ⟨(some 22), .fa 1 (.t 1), none⟩,
  ⟨(some 23), .ld none (.t 22), none⟩,
  ⟨(some 24), .cv .u8 (.t 23), none⟩,
  ⟨(some 25), .bsl 5 6 (List.replicate 6 (.int .u8 0)) [(0, 1, (.t 9)), (1, 1, (.t 12)), (2, 1, (.t 15)), (3, 1, (.t 17)), (4, 1, (.t 21)), (5, 1, (.t 24))], none⟩,
  ⟨(some 2), .mv (.t 25), none⟩]
def c_frame_state : IC := (.seq (.ops o_frame_state_0) (.seq (.ops o_frame_state_1) (.seq (.ops o_frame_state_2) .ret)))
def i_frame_state : IFn := ⟨26, c_frame_state, [(2, none)]⟩

-- F 23 rota/sum.Sum: bads 0, calls [26]
abbrev o_sum_Sum_0 : List IOper := [⟨(some 2), .mv (.k (.c (.int .u32 0))), none⟩]
abbrev o_sum_Sum_1 : List IOper := [⟨(some 3), .mv (.t 0), none⟩,
  ⟨(some 4), .call (.k (.c (.fn fn_sum_More [] []))) [(.k (.c (.int .u32 0))), (.t 3)], none⟩,
  ⟨(some 2), .mv (.t 4), none⟩]
def c_sum_Sum : IC := (.seq (.ops o_sum_Sum_0) (.seq (.ops o_sum_Sum_1) .ret))
def i_sum_Sum : IFn := ⟨5, c_sum_Sum, [(2, none)]⟩

-- F 24 rota/frame.read: bads 0, calls [32, 32]
abbrev o_frame_read_0 : List IOper := [⟨(some 2), .new 27 (.agg (List.replicate 2 (.int .i64 0) ++ [(.int .u16 0)] ++ List.replicate 64 (.int .u8 0))), none⟩,
  ⟨(some 3), .mv (.k (.c (.bool false))), none⟩]
abbrev o_frame_read_1 : List IOper := [⟨(some 5), .mv (.t 0), none⟩,
  ⟨(some 6), .len false (.t 5), none⟩,
  ⟨(some 7), .bin .neq (.t 6) (.k (.c (.int .i64 75))), none⟩,
  ⟨(some 8), .mv (.t 7), none⟩,
  ⟨(some 9), .mv (.t 0), some (8, false)⟩,
  ⟨(some 10), .iaS 1 (.t 9) (.k (.c (.int .i64 6))), some (8, false)⟩,
  ⟨(some 11), .ld none (.t 10), some (8, false)⟩,
  ⟨(some 12), .bin .geq (.t 11) (.k (.c (.int .u8 16))), some (8, false)⟩,
  ⟨(some 13), .pick (.t 8) (.k (.c (.bool true))) (.t 12), none⟩,
  ⟨(some 14), .mv (.t 13), none⟩,
  ⟨(some 15), .mv (.t 0), some (14, false)⟩,
  ⟨(some 16), .iaS 1 (.t 15) (.k (.c (.int .i64 0))), some (14, false)⟩,
  ⟨(some 17), .ld none (.t 16), some (14, false)⟩,
  ⟨(some 18), .bin .gtr (.t 17) (.k (.c (.int .u8 127))), some (14, false)⟩,
  ⟨(some 19), .pick (.t 14) (.k (.c (.bool true))) (.t 18), none⟩]
abbrev o_frame_read_2 : List IOper := [⟨(some 20), .build (List.replicate 2 (.int .i64 0) ++ [(.int .u16 0)] ++ List.replicate 64 (.int .u8 0)) [], none⟩,
  ⟨none, .st 67 (.t 2) (.t 20), none⟩,
  ⟨(some 3), .mv (.k (.c (.bool false))), none⟩]
abbrev o_frame_read_3 : List IOper := [⟨(some 28), .mv (.t 0), none⟩,
  ⟨(some 29), .slS 1 (.t 28) (some (.k (.c (.int .i64 4)))) (some (.k (.c (.int .i64 6)))) none, none⟩,
  ⟨(some 25), .mv (.t 0), none⟩,
  ⟨(some 26), .slS 1 (.t 25) none (some (.k (.c (.int .i64 4)))) none, none⟩,
  ⟨(some 21), .mv (.t 0), none⟩,
  ⟨(some 22), .iaS 1 (.t 21) (.k (.c (.int .i64 6))), none⟩,
  ⟨(some 23), .ld none (.t 22), none⟩,
  ⟨(some 24), .cv .i64 (.t 23), none⟩,
  ⟨(some 27), .call (.k (.c (.fn fn_frame_number [] []))) [(.t 26)], none⟩,
  ⟨none, .same (some none) (.t 22) (.t 23), none⟩,
  ⟨(some 30), .call (.k (.c (.fn fn_frame_number [] []))) [(.t 29)], none⟩,
  ⟨none, .same (some none) (.t 22) (.t 23), none⟩,
  ⟨(some 31), .cv .u16 (.t 30), none⟩,
  ⟨(some 32), .build [(.int .i64 0), (.int .u16 0)] [(0, 1, (.t 27)), (1, 1, (.t 31))], none⟩,
  ⟨(some 33), .build (List.replicate 2 (.int .i64 0) ++ [(.int .u16 0)] ++ List.replicate 64 (.int .u8 0)) [(0, 1, (.t 24)), (1, 2, (.t 32))], none⟩,
  ⟨(some 4), .new 27 (.agg (List.replicate 2 (.int .i64 0) ++ [(.int .u16 0)] ++ List.replicate 64 (.int .u8 0))), none⟩,
  ⟨none, .st 67 (.t 4) (.t 33), none⟩]
abbrev o_frame_read_4 : List IOper := [⟨(some 34), .fa 3 (.t 4), none⟩,
  ⟨(some 35), .slA 64 1 (.t 34) none none none, none⟩,
  ⟨(some 36), .mv (.t 0), none⟩,
  ⟨(some 37), .slS 1 (.t 36) (some (.k (.c (.int .i64 7)))) (some (.k (.c (.int .i64 71)))) none, none⟩,
  ⟨(some 38), .cpy 1 (.t 35) (.t 37), none⟩]
abbrev o_frame_read_5 : List IOper := [⟨(some 39), .ld (some 67) (.t 4), none⟩,
  ⟨none, .st 67 (.t 2) (.t 39), none⟩,
  ⟨(some 3), .mv (.k (.c (.bool true))), none⟩]
def c_frame_read : IC := (.seq (.ops o_frame_read_0) (.seq (.seq (.ops o_frame_read_1) (.cond (.t 19) (.seq (.ops o_frame_read_2) .ret) .skip)) (.seq (.ops o_frame_read_3) (.seq (.ops o_frame_read_4) (.seq (.ops o_frame_read_5) .ret)))))
def i_frame_read : IFn := ⟨40, c_frame_read, [(2, (some (some 67))), (3, none)]⟩

-- F 25 rota/frame.checked: bads 0, calls []
abbrev o_frame_checked_0 : List IOper := [⟨(some 4), .mv (.k (.c (.bool false))), none⟩]
abbrev o_frame_checked_1 : List IOper := [⟨(some 5), .mv (.t 0), none⟩,
  ⟨(some 6), .iaS 1 (.t 5) (.k (.c (.int .i64 71))), none⟩,
  ⟨(some 7), .ld none (.t 6), none⟩,
  ⟨(some 8), .mv (.t 1), none⟩,
  ⟨(some 9), .cv .u8 (.t 8), none⟩,
  ⟨(some 10), .bin .eql (.t 7) (.t 9), none⟩,
  ⟨(some 11), .mv (.t 10), none⟩,
  ⟨(some 12), .mv (.t 0), some (11, true)⟩,
  ⟨(some 13), .iaS 1 (.t 12) (.k (.c (.int .i64 72))), some (11, true)⟩,
  ⟨(some 14), .ld none (.t 13), some (11, true)⟩,
  ⟨(some 15), .mv (.t 1), some (11, true)⟩,
  ⟨(some 16), .bin .shr (.t 15) (.k (.c (.int .u64 8))), some (11, true)⟩,
  ⟨(some 17), .cv .u8 (.t 16), some (11, true)⟩,
  ⟨(some 18), .bin .eql (.t 14) (.t 17), some (11, true)⟩,
  ⟨(some 19), .pick (.t 11) (.t 18) (.k (.c (.bool false))), none⟩,
  ⟨(some 20), .mv (.t 19), none⟩,
  ⟨(some 21), .mv (.t 0), some (20, true)⟩,
  ⟨(some 22), .iaS 1 (.t 21) (.k (.c (.int .i64 73))), some (20, true)⟩,
  ⟨(some 23), .ld none (.t 22), some (20, true)⟩,
  ⟨(some 24), .mv (.t 1), some (20, true)⟩,
  ⟨(some 25), .bin .shr (.t 24) (.k (.c (.int .u64 16))), some (20, true)⟩,
  ⟨(some 26), .cv .u8 (.t 25), some (20, true)⟩,
  ⟨(some 27), .bin .eql (.t 23) (.t 26), some (20, true)⟩,
  ⟨(some 28), .pick (.t 20) (.t 27) (.k (.c (.bool false))), none⟩,
  ⟨(some 29), .mv (.t 28), none⟩,
  ⟨(some 30), .mv (.t 0), some (29, true)⟩,
  ⟨(some 31), .iaS 1 (.t 30) (.k (.c (.int .i64 74))), some (29, true)⟩,
  ⟨(some 32), .ld none (.t 31), some (29, true)⟩,
  ⟨(some 33), .mv (.t 1), some (29, true)⟩,
  ⟨(some 34), .bin .shr (.t 33) (.k (.c (.int .u64 24))), some (29, true)⟩,
  ⟨(some 35), .cv .u8 (.t 34), some (29, true)⟩,
  ⟨(some 36), .bin .eql (.t 32) (.t 35), some (29, true)⟩,
  ⟨(some 37), .pick (.t 29) (.t 36) (.k (.c (.bool false))), none⟩,
  ⟨(some 4), .mv (.t 37), none⟩]
def c_frame_checked : IC := (.seq (.ops o_frame_checked_0) (.seq (.ops o_frame_checked_1) .ret))
def i_frame_checked : IFn := ⟨38, c_frame_checked, [(4, none)]⟩

-- F 26 rota/sum.More: bads 0, calls []
abbrev o_sum_More_0 : List IOper := [⟨(some 4), .mv (.k (.c (.int .u32 0))), none⟩]
abbrev o_sum_More_1 : List IOper := [⟨(some 8), .mv (.t 0), none⟩,
  ⟨(some 9), .un .xor (.t 8), none⟩,
  ⟨(some 5), .mv (.t 9), none⟩]
abbrev o_sum_More_2 : List IOper := [⟨(some 10), .mv (.t 1), none⟩,
  ⟨(some 11), .len false (.t 10), none⟩,
  ⟨(some 12), .mv (.k (.c (.int .i64 0))), none⟩]
abbrev o_sum_More_3 : List IOper := [⟨(some 13), .bin .lss (.t 12) (.t 11), none⟩]
abbrev o_sum_More_4 : List IOper := [⟨(some 14), .iaS 1 (.t 10) (.t 12), none⟩,
  ⟨(some 15), .ld none (.t 14), none⟩,
  ⟨(some 7), .mv (.t 15), none⟩]
abbrev o_sum_More_5 : List IOper := [⟨(some 16), .mv (.t 5), none⟩,
  ⟨(some 17), .mv (.t 7), none⟩,
  ⟨(some 18), .cv .u32 (.t 17), none⟩,
  ⟨(some 19), .bin .xor (.t 16) (.t 18), none⟩,
  ⟨(some 5), .mv (.t 19), none⟩]
abbrev o_sum_More_6 : List IOper := [⟨(some 20), .mv (.t 5), none⟩,
  ⟨(some 21), .bin .shr (.t 20) (.k (.c (.int .u64 4))), none⟩,
  ⟨(some 22), .mv (.t 5), none⟩,
  ⟨(some 23), .bin .and (.t 22) (.k (.c (.int .u32 15))), none⟩,
  ⟨(some 24), .iaA 16 1 (.k (.c (.ptr (some (0, 0))))) (.t 23), none⟩,
  ⟨(some 25), .ld none (.t 24), none⟩,
  ⟨(some 26), .bin .xor (.t 21) (.t 25), none⟩,
  ⟨(some 5), .mv (.t 26), none⟩]
abbrev o_sum_More_7 : List IOper := [⟨(some 27), .mv (.t 5), none⟩,
  ⟨(some 28), .bin .shr (.t 27) (.k (.c (.int .u64 4))), none⟩,
  ⟨(some 29), .mv (.t 5), none⟩,
  ⟨(some 30), .bin .and (.t 29) (.k (.c (.int .u32 15))), none⟩,
  ⟨(some 31), .iaA 16 1 (.k (.c (.ptr (some (0, 0))))) (.t 30), none⟩,
  ⟨(some 32), .ld none (.t 31), none⟩,
  ⟨(some 33), .bin .xor (.t 28) (.t 32), none⟩,
  ⟨(some 5), .mv (.t 33), none⟩]
abbrev o_sum_More_8 : List IOper := [⟨(some 34), .bin .add (.t 12) (.k (.c (.int .i64 1))), none⟩,
  ⟨(some 12), .mv (.t 34), none⟩]
def b_sum_More_9 : IC := (.seq (.ops o_sum_More_3) (.seq (.cond (.t 13) .skip (.exit 0)) (.seq (.block 1 (.seq (.ops o_sum_More_4) (.seq (.ops o_sum_More_5) (.seq (.ops o_sum_More_6) (.ops o_sum_More_7))))) (.ops o_sum_More_8))))
abbrev o_sum_More_10 : List IOper := [⟨(some 35), .mv (.t 5), none⟩,
  ⟨(some 36), .un .xor (.t 35), none⟩,
  ⟨(some 4), .mv (.t 36), none⟩]
def c_sum_More : IC := (.seq (.ops o_sum_More_0) (.seq (.ops o_sum_More_1) (.seq (.seq (.ops o_sum_More_2) (.block 0 (.loop b_sum_More_9))) (.seq (.ops o_sum_More_10) .ret))))
def i_sum_More : IFn := ⟨37, c_sum_More, [(4, none)]⟩

-- F 27 rota/rotaref03.told: bads 0, calls []
abbrev o_rotaref03_told_0 : List IOper := [⟨(some 2), .new 27 (.agg (List.replicate 2 (.int .i64 0) ++ [(.int .u16 0)] ++ List.replicate 64 (.int .u8 0))), none⟩,
  ⟨(some 3), .mv (.k (.c (.bool false))), none⟩]
abbrev o_rotaref03_told_1 : List IOper := [⟨(some 6), .mv (.t 0), none⟩,
  ⟨(some 7), .len false (.t 6), none⟩,
  ⟨(some 8), .bin .neq (.t 7) (.k (.c (.int .i64 75))), none⟩,
  ⟨(some 9), .mv (.t 8), none⟩,
  ⟨(some 10), .mv (.t 0), some (9, false)⟩,
  ⟨(some 11), .iaS 1 (.t 10) (.k (.c (.int .i64 6))), some (9, false)⟩,
  ⟨(some 12), .ld none (.t 11), some (9, false)⟩,
  ⟨(some 13), .bin .gtr (.t 12) (.k (.c (.int .u8 15))), some (9, false)⟩,
  ⟨(some 14), .pick (.t 9) (.k (.c (.bool true))) (.t 13), none⟩,
  ⟨(some 15), .mv (.t 14), none⟩,
  ⟨(some 16), .mv (.t 0), some (15, false)⟩,
  ⟨(some 17), .iaS 1 (.t 16) (.k (.c (.int .i64 0))), some (15, false)⟩,
  ⟨(some 18), .ld none (.t 17), some (15, false)⟩,
  ⟨(some 19), .bin .gtr (.t 18) (.k (.c (.int .u8 127))), some (15, false)⟩,
  ⟨(some 20), .pick (.t 15) (.k (.c (.bool true))) (.t 19), none⟩]
abbrev o_rotaref03_told_2 : List IOper := [⟨(some 21), .build (List.replicate 2 (.int .i64 0) ++ [(.int .u16 0)] ++ List.replicate 64 (.int .u8 0)) [], none⟩,
  ⟨none, .st 67 (.t 2) (.t 21), none⟩,
  ⟨(some 3), .mv (.k (.c (.bool false))), none⟩]
abbrev o_rotaref03_told_3 : List IOper := [⟨(some 22), .mv (.t 0), none⟩,
  ⟨(some 23), .iaS 1 (.t 22) (.k (.c (.int .i64 6))), none⟩,
  ⟨(some 24), .ld none (.t 23), none⟩,
  ⟨(some 25), .cv .i64 (.t 24), none⟩,
  ⟨(some 26), .build (List.replicate 2 (.int .i64 0) ++ [(.int .u16 0)] ++ List.replicate 64 (.int .u8 0)) [(0, 1, (.t 25))], none⟩,
  ⟨(some 4), .new 27 (.agg (List.replicate 2 (.int .i64 0) ++ [(.int .u16 0)] ++ List.replicate 64 (.int .u8 0))), none⟩,
  ⟨none, .st 67 (.t 4) (.t 26), none⟩]
abbrev o_rotaref03_told_4 : List IOper := [⟨(some 27), .mv (.t 0), none⟩,
  ⟨(some 28), .iaS 1 (.t 27) (.k (.c (.int .i64 0))), none⟩,
  ⟨(some 29), .ld none (.t 28), none⟩,
  ⟨(some 30), .cv .i64 (.t 29), none⟩,
  ⟨(some 31), .bin .mul (.t 30) (.k (.c (.int .i64 256))), none⟩,
  ⟨(some 32), .mv (.t 0), none⟩,
  ⟨(some 33), .iaS 1 (.t 32) (.k (.c (.int .i64 1))), none⟩,
  ⟨(some 34), .ld none (.t 33), none⟩,
  ⟨(some 35), .cv .i64 (.t 34), none⟩,
  ⟨(some 36), .bin .add (.t 31) (.t 35), none⟩,
  ⟨(some 37), .bin .mul (.t 36) (.k (.c (.int .i64 256))), none⟩,
  ⟨(some 38), .mv (.t 0), none⟩,
  ⟨(some 39), .iaS 1 (.t 38) (.k (.c (.int .i64 2))), none⟩,
  ⟨(some 40), .ld none (.t 39), none⟩,
  ⟨(some 41), .cv .i64 (.t 40), none⟩,
  ⟨(some 42), .bin .add (.t 37) (.t 41), none⟩,
  ⟨(some 43), .bin .mul (.t 42) (.k (.c (.int .i64 256))), none⟩,
  ⟨(some 44), .mv (.t 0), none⟩,
  ⟨(some 45), .iaS 1 (.t 44) (.k (.c (.int .i64 3))), none⟩,
  ⟨(some 46), .ld none (.t 45), none⟩,
  ⟨(some 47), .cv .i64 (.t 46), none⟩,
  ⟨(some 48), .bin .add (.t 43) (.t 47), none⟩,
  ⟨(some 49), .fa 1 (.t 4), none⟩,
  ⟨(some 50), .fa 0 (.t 49), none⟩,
  ⟨none, .st 1 (.t 50) (.t 48), none⟩]
abbrev o_rotaref03_told_5 : List IOper := [⟨(some 51), .mv (.t 0), none⟩,
  ⟨(some 52), .iaS 1 (.t 51) (.k (.c (.int .i64 4))), none⟩,
  ⟨(some 53), .ld none (.t 52), none⟩,
  ⟨(some 54), .cv .u16 (.t 53), none⟩,
  ⟨(some 55), .bin .mul (.t 54) (.k (.c (.int .u16 256))), none⟩,
  ⟨(some 56), .mv (.t 0), none⟩,
  ⟨(some 57), .iaS 1 (.t 56) (.k (.c (.int .i64 5))), none⟩,
  ⟨(some 58), .ld none (.t 57), none⟩,
  ⟨(some 59), .cv .u16 (.t 58), none⟩,
  ⟨(some 60), .bin .add (.t 55) (.t 59), none⟩,
  ⟨(some 61), .fa 1 (.t 4), none⟩,
  ⟨(some 62), .fa 1 (.t 61), none⟩,
  ⟨none, .st 1 (.t 62) (.t 60), none⟩]
abbrev o_rotaref03_told_6 : List IOper := [⟨(some 5), .mv (.k (.c (.int .i64 0))), none⟩]
abbrev o_rotaref03_told_7 : List IOper := [⟨(some 63), .mv (.t 5), none⟩,
  ⟨(some 64), .bin .lss (.t 63) (.k (.c (.int .i64 64))), none⟩]
abbrev o_rotaref03_told_8 : List IOper := [⟨(some 67), .mv (.t 5), none⟩,
  ⟨(some 68), .mv (.t 0), none⟩,
  ⟨(some 69), .mv (.t 5), none⟩,
  ⟨(some 70), .bin .add (.k (.c (.int .i64 7))) (.t 69), none⟩,
  ⟨(some 71), .iaS 1 (.t 68) (.t 70), none⟩,
  ⟨(some 72), .ld none (.t 71), none⟩,
  ⟨(some 73), .fa 3 (.t 4), none⟩,
  ⟨(some 74), .iaA 64 1 (.t 73) (.t 67), none⟩,
  ⟨none, .st 1 (.t 74) (.t 72), none⟩]
abbrev o_rotaref03_told_9 : List IOper := [⟨(some 65), .mv (.t 5), none⟩,
  ⟨(some 66), .bin .add (.t 65) (.k (.c (.int .i64 1))), none⟩,
  ⟨(some 5), .mv (.t 66), none⟩]
def b_rotaref03_told_10 : IC := (.seq (.seq (.ops o_rotaref03_told_7) (.cond (.t 64) .skip (.exit 0))) (.seq (.block 1 (.ops o_rotaref03_told_8)) (.ops o_rotaref03_told_9)))
abbrev o_rotaref03_told_11 : List IOper := [⟨(some 75), .ld (some 67) (.t 4), none⟩,
  ⟨none, .st 67 (.t 2) (.t 75), none⟩,
  ⟨(some 3), .mv (.k (.c (.bool true))), none⟩]
def c_rotaref03_told : IC := (.seq (.ops o_rotaref03_told_0) (.seq (.seq (.ops o_rotaref03_told_1) (.cond (.t 20) (.seq (.ops o_rotaref03_told_2) .ret) .skip)) (.seq (.ops o_rotaref03_told_3) (.seq (.ops o_rotaref03_told_4) (.seq (.ops o_rotaref03_told_5) (.seq (.seq (.ops o_rotaref03_told_6) (.block 0 (.loop b_rotaref03_told_10))) (.seq (.ops o_rotaref03_told_11) .ret)))))))
def i_rotaref03_told : IFn := ⟨76, c_rotaref03_told, [(2, (some (some 67))), (3, none)]⟩

-- F 28 rota/rotaref03.sealed: bads 0, calls [21]
abbrev o_rotaref03_sealed_0 : List IOper := [⟨(some 4), .mv (.k (.c (.bool false))), none⟩]
abbrev o_rotaref03_sealed_1 : List IOper := [⟨(some 6), .mv (.t 1), none⟩,
  ⟨(some 7), .call (.k (.c (.fn fn_rotaref01_Sum [] []))) [(.t 6)], none⟩,
  ⟨(some 5), .mv (.t 7), none⟩]
abbrev o_rotaref03_sealed_2 : List IOper := [⟨(some 8), .mv (.t 0), none⟩,
  ⟨(some 9), .iaS 1 (.t 8) (.k (.c (.int .i64 71))), none⟩,
  ⟨(some 10), .ld none (.t 9), none⟩,
  ⟨(some 11), .mv (.t 5), none⟩,
  ⟨(some 12), .bin .rem (.t 11) (.k (.c (.int .u32 256))), none⟩,
  ⟨(some 13), .cv .u8 (.t 12), none⟩,
  ⟨(some 14), .bin .eql (.t 10) (.t 13), none⟩,
  ⟨(some 15), .mv (.t 14), none⟩,
  ⟨(some 16), .mv (.t 0), some (15, true)⟩,
  ⟨(some 17), .iaS 1 (.t 16) (.k (.c (.int .i64 72))), some (15, true)⟩,
  ⟨(some 18), .ld none (.t 17), some (15, true)⟩,
  ⟨(some 19), .mv (.t 5), some (15, true)⟩,
  ⟨(some 20), .bin .quo (.t 19) (.k (.c (.int .u32 256))), some (15, true)⟩,
  ⟨(some 21), .bin .rem (.t 20) (.k (.c (.int .u32 256))), some (15, true)⟩,
  ⟨(some 22), .cv .u8 (.t 21), some (15, true)⟩,
  ⟨(some 23), .bin .eql (.t 18) (.t 22), some (15, true)⟩,
  ⟨(some 24), .pick (.t 15) (.t 23) (.k (.c (.bool false))), none⟩,
  ⟨(some 25), .mv (.t 24), none⟩,
  ⟨(some 26), .mv (.t 0), some (25, true)⟩,
  ⟨(some 27), .iaS 1 (.t 26) (.k (.c (.int .i64 73))), some (25, true)⟩,
  ⟨(some 28), .ld none (.t 27), some (25, true)⟩,
  ⟨(some 29), .mv (.t 5), some (25, true)⟩,
  ⟨(some 30), .bin .quo (.t 29) (.k (.c (.int .u32 65536))), some (25, true)⟩,
  ⟨(some 31), .bin .rem (.t 30) (.k (.c (.int .u32 256))), some (25, true)⟩,
  ⟨(some 32), .cv .u8 (.t 31), some (25, true)⟩,
  ⟨(some 33), .bin .eql (.t 28) (.t 32), some (25, true)⟩,
  ⟨(some 34), .pick (.t 25) (.t 33) (.k (.c (.bool false))), none⟩,
  ⟨(some 35), .mv (.t 34), none⟩,
  ⟨(some 36), .mv (.t 0), some (35, true)⟩,
  ⟨(some 37), .iaS 1 (.t 36) (.k (.c (.int .i64 74))), some (35, true)⟩,
  ⟨(some 38), .ld none (.t 37), some (35, true)⟩,
  ⟨(some 39), .mv (.t 5), some (35, true)⟩,
  ⟨(some 40), .bin .quo (.t 39) (.k (.c (.int .u32 16777216))), some (35, true)⟩,
  ⟨(some 41), .cv .u8 (.t 40), some (35, true)⟩,
  ⟨(some 42), .bin .eql (.t 38) (.t 41), some (35, true)⟩,
  ⟨(some 43), .pick (.t 35) (.t 42) (.k (.c (.bool false))), none⟩,
  ⟨(some 4), .mv (.t 43), none⟩]
def c_rotaref03_sealed : IC := (.seq (.ops o_rotaref03_sealed_0) (.seq (.ops o_rotaref03_sealed_1) (.seq (.ops o_rotaref03_sealed_2) .ret)))
def i_rotaref03_sealed : IFn := ⟨44, c_rotaref03_sealed, [(4, none)]⟩

-- F 29 slices.Clone[[]byte,byte]: bads 0, calls []
abbrev o_slices_Clone_byte_byte_0 : List IOper := [⟨(some 2), .mv (.k (.c (.sl none 0 0 false))), none⟩]
abbrev o_slices_Clone_byte_byte_1 : List IOper := [⟨(some 3), .mv (.t 0), none⟩,
  ⟨(some 4), .eq .sl false (.t 3) (.k (.c (.sl none 0 0 false))), none⟩]
abbrev o_slices_Clone_byte_byte_2 : List IOper := [⟨(some 2), .mv (.k (.c (.sl none 0 0 false))), none⟩]
abbrev o_slices_Clone_byte_byte_3 : List IOper := [⟨(some 5), .bsl 5 0 [] [], none⟩,
  ⟨(some 6), .mv (.t 0), none⟩,
  ⟨(some 7), .app 5 1 1 (.t 5) (.t 6), none⟩,
  ⟨(some 2), .mv (.t 7), none⟩]
def c_slices_Clone_byte_byte : IC := (.seq (.ops o_slices_Clone_byte_byte_0) (.seq (.seq (.ops o_slices_Clone_byte_byte_1) (.cond (.t 4) (.seq (.ops o_slices_Clone_byte_byte_2) .ret) .skip)) (.seq (.ops o_slices_Clone_byte_byte_3) .ret)))
def i_slices_Clone_byte_byte : IFn := ⟨8, c_slices_Clone_byte_byte, [(2, none)]⟩

-- F 30 rota/frame.bits: bads 0, calls [33]
abbrev o_frame_bits_0 : List IOper := [⟨(some 1), .box 47 (.t 0), none⟩,
  ⟨(some 2), .mv (.k (.c .nilFn)), none⟩]
abbrev o_frame_bits_1 : List IOper := [⟨(some 3), .mkfn fn_frame_bits_1 [] [(.t 1)], none⟩,
  ⟨(some 2), .mv (.t 3), none⟩]
def c_frame_bits : IC := (.seq (.ops o_frame_bits_0) (.seq (.ops o_frame_bits_1) .ret))
def i_frame_bits : IFn := ⟨4, c_frame_bits, [(2, none)]⟩

-- F 31 rota/rotaref01.More: bads 0, calls [34]
abbrev o_rotaref01_More_0 : List IOper := [⟨(some 4), .mv (.k (.c (.int .u32 0))), none⟩]
abbrev o_rotaref01_More_1 : List IOper := [⟨(some 7), .mv (.t 0), none⟩,
  ⟨(some 8), .bin .sub (.k (.c (.int .u32 4294967295))) (.t 7), none⟩,
  ⟨(some 5), .mv (.t 8), none⟩]
abbrev o_rotaref01_More_2 : List IOper := [⟨(some 6), .mv (.k (.c (.int .i64 0))), none⟩]
abbrev o_rotaref01_More_3 : List IOper := [⟨(some 9), .mv (.t 6), none⟩,
  ⟨(some 10), .mv (.t 1), none⟩,
  ⟨(some 11), .len false (.t 10), none⟩,
  ⟨(some 12), .bin .lss (.t 9) (.t 11), none⟩]
abbrev o_rotaref01_More_4 : List IOper := [⟨(some 15), .mv (.t 5), none⟩,
  ⟨(some 16), .mv (.t 1), none⟩,
  ⟨(some 17), .mv (.t 6), none⟩,
  ⟨(some 18), .iaS 1 (.t 16) (.t 17), none⟩,
  ⟨(some 19), .ld none (.t 18), none⟩,
  ⟨(some 20), .cv .u32 (.t 19), none⟩,
  ⟨(some 21), .bin .xor (.t 15) (.t 20), none⟩,
  ⟨(some 22), .call (.k (.c (.fn fn_rotaref01_steps [] []))) [(.t 21)], none⟩,
  ⟨(some 5), .mv (.t 22), none⟩]
abbrev o_rotaref01_More_5 : List IOper := [⟨(some 13), .mv (.t 6), none⟩,
  ⟨(some 14), .bin .add (.t 13) (.k (.c (.int .i64 1))), none⟩,
  ⟨(some 6), .mv (.t 14), none⟩]
def b_rotaref01_More_6 : IC := (.seq (.seq (.ops o_rotaref01_More_3) (.cond (.t 12) .skip (.exit 0))) (.seq (.block 1 (.ops o_rotaref01_More_4)) (.ops o_rotaref01_More_5)))
abbrev o_rotaref01_More_7 : List IOper := [⟨(some 23), .mv (.t 5), none⟩,
  ⟨(some 24), .bin .sub (.k (.c (.int .u32 4294967295))) (.t 23), none⟩,
  ⟨(some 4), .mv (.t 24), none⟩]
def c_rotaref01_More : IC := (.seq (.ops o_rotaref01_More_0) (.seq (.ops o_rotaref01_More_1) (.seq (.seq (.ops o_rotaref01_More_2) (.block 0 (.loop b_rotaref01_More_6))) (.seq (.ops o_rotaref01_More_7) .ret))))
def i_rotaref01_More : IFn := ⟨25, c_rotaref01_More, [(4, none)]⟩

-- F 32 rota/frame.number: bads 0, calls []
abbrev o_frame_number_0 : List IOper := [⟨(some 2), .mv (.k (.c (.int .i64 0))), none⟩]
abbrev o_frame_number_1 : List IOper := [⟨(some 5), .mv (.t 0), none⟩,
  ⟨(some 6), .len false (.t 5), none⟩,
  ⟨(some 7), .mv (.k (.c (.int .i64 0))), none⟩]
abbrev o_frame_number_2 : List IOper := [⟨(some 8), .bin .lss (.t 7) (.t 6), none⟩]
abbrev o_frame_number_3 : List IOper := [⟨(some 9), .iaS 1 (.t 5) (.t 7), none⟩,
  ⟨(some 10), .ld none (.t 9), none⟩,
  ⟨(some 4), .mv (.t 10), none⟩]
abbrev o_frame_number_4 : List IOper := [⟨(some 11), .mv (.t 2), none⟩,
  ⟨(some 12), .bin .shl (.t 11) (.k (.c (.int .u64 8))), none⟩,
  ⟨(some 13), .mv (.t 4), none⟩,
  ⟨(some 14), .cv .i64 (.t 13), none⟩,
  ⟨(some 15), .bin .or (.t 12) (.t 14), none⟩,
  ⟨(some 2), .mv (.t 15), none⟩]
abbrev o_frame_number_5 : List IOper := [⟨(some 16), .bin .add (.t 7) (.k (.c (.int .i64 1))), none⟩,
  ⟨(some 7), .mv (.t 16), none⟩]
def b_frame_number_6 : IC := (.seq (.ops o_frame_number_2) (.seq (.cond (.t 8) .skip (.exit 0)) (.seq (.block 1 (.seq (.ops o_frame_number_3) (.ops o_frame_number_4))) (.ops o_frame_number_5))))
abbrev o_frame_number_7 : List IOper := [⟨(some 17), .mv (.t 2), none⟩,
  ⟨(some 2), .mv (.t 17), none⟩]
def c_frame_number : IC := (.seq (.ops o_frame_number_0) (.seq (.seq (.ops o_frame_number_1) (.block 0 (.loop b_frame_number_6))) (.seq (.ops o_frame_number_7) .ret)))
def i_frame_number : IFn := ⟨18, c_frame_number, [(2, none)]⟩

-- F 33 rota/frame.bits$1: bads 0, calls []
abbrev o_frame_bits_1_0 : List IOper := [⟨(some 4), .mv (.k (.c (.int .i64 0))), none⟩]
abbrev o_frame_bits_1_1 : List IOper := [⟨(some 5), .bin .lss (.t 4) (.k (.c (.int .i64 32))), none⟩]
abbrev o_frame_bits_1_2 : List IOper := [⟨(some 6), .mv (.t 4), none⟩,
  ⟨(some 3), .mv (.t 6), none⟩]
abbrev o_frame_bits_1_3 : List IOper := [⟨(some 7), .ld none (.t 1), none⟩,
  ⟨(some 8), .mv (.t 3), none⟩,
  ⟨(some 9), .bin .shr (.t 7) (.t 8), none⟩,
  ⟨(some 10), .bin .eql (.t 9) (.k (.c (.int .u32 0))), none⟩]
abbrev o_frame_bits_1_4 : List IOper := [⟨(some 11), .ld none (.t 1), none⟩,
  ⟨(some 12), .mv (.t 3), none⟩,
  ⟨(some 13), .bin .shr (.t 11) (.t 12), none⟩,
  ⟨(some 14), .bin .and (.t 13) (.k (.c (.int .u32 1))), none⟩,
  ⟨(some 15), .bin .eql (.t 14) (.k (.c (.int .u32 1))), none⟩,
  ⟨(some 16), .mv (.t 15), none⟩,
  ⟨(some 17), .mv (.t 0), some (16, true)⟩,
  ⟨(some 18), .mv (.t 3), some (16, true)⟩,
  ⟨(some 19), .call (.t 17) [(.t 18)], some (16, true)⟩,
  ⟨(some 20), .un .not (.t 19), some (16, true)⟩,
  ⟨(some 21), .pick (.t 16) (.t 20) (.k (.c (.bool false))), none⟩]
abbrev o_frame_bits_1_5 : List IOper := [⟨(some 22), .bin .add (.t 4) (.k (.c (.int .i64 1))), none⟩,
  ⟨(some 4), .mv (.t 22), none⟩]
def b_frame_bits_1_6 : IC := (.seq (.ops o_frame_bits_1_1) (.seq (.cond (.t 5) .skip (.exit 0)) (.seq (.block 1 (.seq (.ops o_frame_bits_1_2) (.seq (.seq (.ops o_frame_bits_1_3) (.cond (.t 10) (.exit 0) .skip)) (.seq (.ops o_frame_bits_1_4) (.cond (.t 21) (.exit 0) .skip))))) (.ops o_frame_bits_1_5))))
def c_frame_bits_1 : IC := (.seq .skip (.seq .skip (.seq (.ops o_frame_bits_1_0) (.block 0 (.loop b_frame_bits_1_6)))))
def i_frame_bits_1 : IFn := ⟨23, c_frame_bits_1, []⟩

-- F 34 rota/rotaref01.steps: bads 0, calls []
abbrev o_rotaref01_steps_0 : List IOper := [⟨(some 2), .mv (.k (.c (.int .u32 0))), none⟩]
abbrev o_rotaref01_steps_1 : List IOper := [⟨(some 3), .mv (.k (.c (.int .i64 0))), none⟩]
abbrev o_rotaref01_steps_2 : List IOper := [⟨(some 5), .mv (.t 3), none⟩,
  ⟨(some 6), .bin .lss (.t 5) (.k (.c (.int .i64 8))), none⟩]
abbrev o_rotaref01_steps_3 : List IOper := [⟨(some 9), .mv (.t 0), none⟩,
  ⟨(some 10), .bin .rem (.t 9) (.k (.c (.int .u32 2))), none⟩,
  ⟨(some 4), .mv (.t 10), none⟩]
abbrev o_rotaref01_steps_4 : List IOper := [⟨(some 11), .mv (.t 0), none⟩,
  ⟨(some 12), .bin .quo (.t 11) (.k (.c (.int .u32 2))), none⟩,
  ⟨(some 0), .mv (.t 12), none⟩]
abbrev o_rotaref01_steps_5 : List IOper := [⟨(some 13), .mv (.t 4), none⟩,
  ⟨(some 14), .bin .eql (.t 13) (.k (.c (.int .u32 1))), none⟩]
abbrev o_rotaref01_steps_6 : List IOper := [⟨(some 15), .mv (.t 0), none⟩,
  ⟨(some 16), .bin .xor (.t 15) (.k (.c (.int .u32 3988292384))), none⟩,
  ⟨(some 0), .mv (.t 16), none⟩]
abbrev o_rotaref01_steps_7 : List IOper := [⟨(some 7), .mv (.t 3), none⟩,
  ⟨(some 8), .bin .add (.t 7) (.k (.c (.int .i64 1))), none⟩,
  ⟨(some 3), .mv (.t 8), none⟩]
def b_rotaref01_steps_8 : IC := (.seq (.seq (.ops o_rotaref01_steps_2) (.cond (.t 6) .skip (.exit 0))) (.seq (.block 1 (.seq (.ops o_rotaref01_steps_3) (.seq (.ops o_rotaref01_steps_4) (.seq (.ops o_rotaref01_steps_5) (.cond (.t 14) (.ops o_rotaref01_steps_6) .skip))))) (.ops o_rotaref01_steps_7)))
abbrev o_rotaref01_steps_9 : List IOper := [⟨(some 17), .mv (.t 0), none⟩,
  ⟨(some 2), .mv (.t 17), none⟩]
def c_rotaref01_steps : IC := (.seq (.ops o_rotaref01_steps_0) (.seq (.seq (.ops o_rotaref01_steps_1) (.block 0 (.loop b_rotaref01_steps_8))) (.seq (.ops o_rotaref01_steps_9) .ret)))
def i_rotaref01_steps : IFn := ⟨18, c_rotaref01_steps, [(2, none)]⟩

def fs : List (Nat × IFn) := [(fn_rotalaw03_FrameWrites, i_rotalaw03_FrameWrites), (fn_rotalaw03_FrameApart, i_rotalaw03_FrameApart), (fn_rotalaw03_FrameHears, i_rotalaw03_FrameHears), (fn_rotalaw03_FrameBack, i_rotalaw03_FrameBack), (fn_rotalaw03_FrameOwn, i_rotalaw03_FrameOwn), (fn_rotalaw03_FrameNames, i_rotalaw03_FrameNames), (fn_rotalaw03_FrameBursts, i_rotalaw03_FrameBursts), (fn_rotalaw03_FrameBlind, i_rotalaw03_FrameBlind), (fn_rotaref03_Encode, i_rotaref03_Encode), (fn_frame_Encode, i_frame_Encode), (fn_rotalaw03_alive, i_rotalaw03_alive), (fn_rotalaw03_right, i_rotalaw03_right), (fn_frame_Decode, i_frame_Decode), (fn_frame_Accept, i_frame_Accept), (fn_rotaref03_Decode, i_rotaref03_Decode), (fn_rotaref03_Accept, i_rotaref03_Accept), (fn_frame_Corrupt, i_frame_Corrupt), (fn_rotaref03_State, i_rotaref03_State), (fn_rotaref01_Sum, i_rotaref01_Sum), (fn_frame_state, i_frame_state), (fn_sum_Sum, i_sum_Sum), (fn_frame_read, i_frame_read), (fn_frame_checked, i_frame_checked), (fn_sum_More, i_sum_More), (fn_rotaref03_told, i_rotaref03_told), (fn_rotaref03_sealed, i_rotaref03_sealed), (fn_slices_Clone_byte_byte, i_slices_Clone_byte_byte), (fn_frame_bits, i_frame_bits), (fn_rotaref01_More, i_rotaref01_More), (fn_frame_number, i_frame_number), (fn_frame_bits_1, i_frame_bits_1), (fn_rotaref01_steps, i_rotaref01_steps)]
def F : FuncId → Option Fun := funs fs
theorem e_rotalaw03_FrameWrites : F fn_rotalaw03_FrameWrites = some (.code ⟨70, c_rotalaw03_FrameWrites, [(2, none)]⟩) := by rfl
theorem e_rotalaw03_FrameApart : F fn_rotalaw03_FrameApart = some (.code ⟨45, c_rotalaw03_FrameApart, [(4, none)]⟩) := by rfl
theorem e_rotalaw03_FrameHears : F fn_rotalaw03_FrameHears = some (.code ⟨80, c_rotalaw03_FrameHears, [(6, none)]⟩) := by rfl
theorem e_rotalaw03_FrameBack : F fn_rotalaw03_FrameBack = some (.code ⟨162, c_rotalaw03_FrameBack, [(6, none)]⟩) := by rfl
theorem e_rotalaw03_FrameOwn : F fn_rotalaw03_FrameOwn = some (.code ⟨79, c_rotalaw03_FrameOwn, [(6, none)]⟩) := by rfl
theorem e_rotalaw03_FrameNames : F fn_rotalaw03_FrameNames = some (.code ⟨139, c_rotalaw03_FrameNames, [(0, none)]⟩) := by rfl
theorem e_rotalaw03_FrameBursts : F fn_rotalaw03_FrameBursts = some (.code ⟨156, c_rotalaw03_FrameBursts, [(6, none)]⟩) := by rfl
theorem e_rotalaw03_FrameBlind : F fn_rotalaw03_FrameBlind = some (.code ⟨107, c_rotalaw03_FrameBlind, [(6, none)]⟩) := by rfl
theorem e_rotaref03_Encode : F fn_rotaref03_Encode = some (.code ⟨57, c_rotaref03_Encode, [(2, none), (3, none)]⟩) := by rfl
theorem e_frame_Encode : F fn_frame_Encode = some (.code ⟨53, c_frame_Encode, [(2, none), (3, none)]⟩) := by rfl
theorem e_rotalaw03_alive : F fn_rotalaw03_alive = some (.code ⟨67, c_rotalaw03_alive, [(0, none)]⟩) := by rfl
theorem e_rotalaw03_right : F fn_rotalaw03_right = some (.code ⟨14, c_rotalaw03_right, [(2, (some (some 67)))]⟩) := by rfl
theorem e_frame_Decode : F fn_frame_Decode = some (.code ⟨22, c_frame_Decode, [(2, (some (some 67))), (3, none)]⟩) := by rfl
theorem e_frame_Accept : F fn_frame_Accept = some (.code ⟨40, c_frame_Accept, [(6, (some (some 67))), (7, none)]⟩) := by rfl
theorem e_rotaref03_Decode : F fn_rotaref03_Decode = some (.code ⟨21, c_rotaref03_Decode, [(2, (some (some 67))), (3, none)]⟩) := by rfl
theorem e_rotaref03_Accept : F fn_rotaref03_Accept = some (.code ⟨41, c_rotaref03_Accept, [(6, (some (some 67))), (7, none)]⟩) := by rfl
theorem e_frame_Corrupt : F fn_frame_Corrupt = some (.code ⟨48, c_frame_Corrupt, [(6, none)]⟩) := by rfl
theorem e_rotaref03_State : F fn_rotaref03_State = some (.code ⟨30, c_rotaref03_State, [(2, none)]⟩) := by rfl
theorem e_rotaref01_Sum : F fn_rotaref01_Sum = some (.code ⟨5, c_rotaref01_Sum, [(2, none)]⟩) := by rfl
theorem e_frame_state : F fn_frame_state = some (.code ⟨26, c_frame_state, [(2, none)]⟩) := by rfl
theorem e_sum_Sum : F fn_sum_Sum = some (.code ⟨5, c_sum_Sum, [(2, none)]⟩) := by rfl
theorem e_frame_read : F fn_frame_read = some (.code ⟨40, c_frame_read, [(2, (some (some 67))), (3, none)]⟩) := by rfl
theorem e_frame_checked : F fn_frame_checked = some (.code ⟨38, c_frame_checked, [(4, none)]⟩) := by rfl
theorem e_sum_More : F fn_sum_More = some (.code ⟨37, c_sum_More, [(4, none)]⟩) := by rfl
theorem e_rotaref03_told : F fn_rotaref03_told = some (.code ⟨76, c_rotaref03_told, [(2, (some (some 67))), (3, none)]⟩) := by rfl
theorem e_rotaref03_sealed : F fn_rotaref03_sealed = some (.code ⟨44, c_rotaref03_sealed, [(4, none)]⟩) := by rfl
theorem e_slices_Clone_byte_byte : F fn_slices_Clone_byte_byte = some (.code ⟨8, c_slices_Clone_byte_byte, [(2, none)]⟩) := by rfl
theorem e_frame_bits : F fn_frame_bits = some (.code ⟨4, c_frame_bits, [(2, none)]⟩) := by rfl
theorem e_rotaref01_More : F fn_rotaref01_More = some (.code ⟨25, c_rotaref01_More, [(4, none)]⟩) := by rfl
theorem e_frame_number : F fn_frame_number = some (.code ⟨18, c_frame_number, [(2, none)]⟩) := by rfl
theorem e_frame_bits_1 : F fn_frame_bits_1 = some (.code ⟨23, c_frame_bits_1, []⟩) := by rfl
theorem e_rotaref01_steps : F fn_rotaref01_steps = some (.code ⟨18, c_rotaref01_steps, [(2, none)]⟩) := by rfl
end Go.Proofs.YtioeobdejeikmaaDoor.AM.D03
