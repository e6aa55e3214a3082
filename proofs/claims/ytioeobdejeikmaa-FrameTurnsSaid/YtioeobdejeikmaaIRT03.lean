/- The functions of these laws as the abstract machine's code, printed by a program of this claim's. -/
import Derived.Test.YtioeobdejeikmaaA3
set_option linter.unusedVariables false
set_option linter.unusedSimpArgs false
set_option linter.unusedSectionVars false
namespace Go.Proofs.Ytioeobdejeikmaa.AM.T03
open Go Go.Proofs.Ytioeobdejeikmaa.AM
abbrev fn_rotalaw03_FrameTurns : Nat := 3
abbrev fn_rotaref03_Corrupt : Nat := 4
abbrev fn_frame_Corrupt : Nat := 5
abbrev fn_slices_Clone_byte_byte : Nat := 6
abbrev fn_frame_bits : Nat := 7
abbrev fn_frame_bits_1 : Nat := 8

-- F 3 rota/rotalaw03.FrameTurns: bads 0, calls [4, 5, 5]
abbrev o_rotalaw03_FrameTurns_0 : List IOper := [⟨(some 6), .mv (.k (.c (.bool false))), none⟩]
abbrev o_rotalaw03_FrameTurns_1 : List IOper := [⟨(some 12), .mv (.t 0), none⟩,
  ⟨(some 13), .len false (.t 12), none⟩,
  ⟨(some 14), .bin .gtr (.t 13) (.k (.c (.int .i64 1000))), none⟩]
abbrev o_rotalaw03_FrameTurns_2 : List IOper := [⟨(some 6), .mv (.k (.c (.bool true))), none⟩]
abbrev o_rotalaw03_FrameTurns_3 : List IOper := [⟨(some 15), .bsl 5 0 [] [], none⟩,
  ⟨(some 16), .mv (.t 0), none⟩,
  ⟨(some 17), .app 5 1 1 (.t 15) (.t 16), none⟩,
  ⟨(some 18), .bsl 5 1 [(.int .u8 0)] [(0, 1, (.k (.c (.int .u8 7))))], none⟩,
  ⟨(some 19), .app 5 1 1 (.t 17) (.t 18), none⟩,
  ⟨(some 7), .mv (.t 19), none⟩]
abbrev o_rotalaw03_FrameTurns_4 : List IOper := [⟨(some 20), .mv (.t 0), none⟩,
  ⟨(some 21), .mv (.t 1), none⟩,
  ⟨(some 22), .mv (.t 2), none⟩,
  ⟨(some 23), .call (.k (.c (.fn fn_rotaref03_Corrupt [] []))) [(.t 20), (.t 21), (.t 22)], none⟩,
  ⟨(some 8), .mv (.t 23), none⟩]
abbrev o_rotalaw03_FrameTurns_5 : List IOper := [⟨(some 24), .mv (.t 7), none⟩,
  ⟨(some 25), .mv (.t 0), none⟩,
  ⟨(some 26), .len false (.t 25), none⟩,
  ⟨(some 27), .slS 1 (.t 24) none (some (.t 26)) none, none⟩,
  ⟨(some 28), .mv (.t 1), none⟩,
  ⟨(some 29), .mv (.t 2), none⟩,
  ⟨(some 30), .call (.k (.c (.fn fn_frame_Corrupt [] []))) [(.t 27), (.t 28), (.t 29)], none⟩,
  ⟨(some 9), .mv (.t 30), none⟩]
abbrev o_rotalaw03_FrameTurns_6 : List IOper := [⟨(some 31), .mv (.t 7), none⟩,
  ⟨(some 32), .mv (.t 0), none⟩,
  ⟨(some 33), .len false (.t 32), none⟩,
  ⟨(some 34), .slS 1 (.t 31) none (some (.t 33)) none, none⟩,
  ⟨(some 35), .mv (.t 1), none⟩,
  ⟨(some 36), .mv (.t 2), none⟩,
  ⟨(some 37), .call (.k (.c (.fn fn_frame_Corrupt [] []))) [(.t 34), (.t 35), (.t 36)], none⟩,
  ⟨(some 10), .mv (.t 37), none⟩]
abbrev o_rotalaw03_FrameTurns_7 : List IOper := [⟨(some 38), .mv (.t 9), none⟩,
  ⟨(some 39), .b2s (.t 38), none⟩,
  ⟨(some 40), .mv (.t 8), none⟩,
  ⟨(some 41), .b2s (.t 40), none⟩,
  ⟨(some 42), .bin .neq (.t 39) (.t 41), none⟩]
abbrev o_rotalaw03_FrameTurns_8 : List IOper := [⟨(some 6), .mv (.k (.c (.bool false))), none⟩]
abbrev o_rotalaw03_FrameTurns_9 : List IOper := [⟨(some 43), .mv (.t 9), none⟩,
  ⟨(some 44), .len false (.t 43), none⟩,
  ⟨(some 45), .mv (.k (.c (.int .i64 0))), none⟩]
abbrev o_rotalaw03_FrameTurns_10 : List IOper := [⟨(some 46), .bin .lss (.t 45) (.t 44), none⟩]
abbrev o_rotalaw03_FrameTurns_11 : List IOper := [⟨(some 47), .mv (.t 45), none⟩,
  ⟨(some 11), .mv (.t 47), none⟩]
abbrev o_rotalaw03_FrameTurns_12 : List IOper := [⟨(some 48), .mv (.t 9), none⟩,
  ⟨(some 49), .mv (.t 11), none⟩,
  ⟨(some 50), .mv (.t 9), none⟩,
  ⟨(some 51), .mv (.t 11), none⟩,
  ⟨(some 52), .iaS 1 (.t 50) (.t 51), none⟩,
  ⟨(some 53), .ld none (.t 52), none⟩,
  ⟨(some 54), .bin .add (.t 53) (.k (.c (.int .u8 1))), none⟩,
  ⟨(some 55), .iaS 1 (.t 48) (.t 49), none⟩,
  ⟨none, .st 1 (.t 55) (.t 54), none⟩]
abbrev o_rotalaw03_FrameTurns_13 : List IOper := [⟨(some 56), .bin .add (.t 45) (.k (.c (.int .i64 1))), none⟩,
  ⟨(some 45), .mv (.t 56), none⟩]
def b_rotalaw03_FrameTurns_14 : IC := (.seq (.ops o_rotalaw03_FrameTurns_10) (.seq (.cond (.t 46) .skip (.exit 0)) (.seq (.block 1 (.seq (.ops o_rotalaw03_FrameTurns_11) (.ops o_rotalaw03_FrameTurns_12))) (.ops o_rotalaw03_FrameTurns_13))))
abbrev o_rotalaw03_FrameTurns_15 : List IOper := [⟨(some 57), .mv (.t 9), none⟩,
  ⟨(some 58), .bsl 5 1 [(.int .u8 0)] [(0, 1, (.k (.c (.int .u8 9))))], none⟩,
  ⟨(some 59), .app 5 1 1 (.t 57) (.t 58), none⟩,
  ⟨(some 9), .mv (.t 59), none⟩]
abbrev o_rotalaw03_FrameTurns_16 : List IOper := [⟨(some 60), .mv (.t 10), none⟩,
  ⟨(some 61), .b2s (.t 60), none⟩,
  ⟨(some 62), .mv (.t 8), none⟩,
  ⟨(some 63), .b2s (.t 62), none⟩,
  ⟨(some 64), .bin .eql (.t 61) (.t 63), none⟩,
  ⟨(some 65), .mv (.t 64), none⟩,
  ⟨(some 66), .mv (.t 7), some (65, true)⟩,
  ⟨(some 67), .b2s (.t 66), some (65, true)⟩,
  ⟨(some 68), .mv (.t 0), some (65, true)⟩,
  ⟨(some 69), .b2s (.t 68), some (65, true)⟩,
  ⟨(some 70), .bin .add (.t 69) (.k (.c (.str ⟨#[7]⟩))), some (65, true)⟩,
  ⟨(some 71), .bin .eql (.t 67) (.t 70), some (65, true)⟩,
  ⟨(some 72), .pick (.t 65) (.t 71) (.k (.c (.bool false))), none⟩,
  ⟨(some 73), .mv (.t 72), none⟩,
  ⟨(some 74), .mv (.t 9), some (73, true)⟩,
  ⟨(some 75), .len false (.t 74), some (73, true)⟩,
  ⟨(some 76), .mv (.t 0), some (73, true)⟩,
  ⟨(some 77), .len false (.t 76), some (73, true)⟩,
  ⟨(some 78), .bin .add (.t 77) (.k (.c (.int .i64 1))), some (73, true)⟩,
  ⟨(some 79), .bin .eql (.t 75) (.t 78), some (73, true)⟩,
  ⟨(some 80), .pick (.t 73) (.t 79) (.k (.c (.bool false))), none⟩,
  ⟨(some 6), .mv (.t 80), none⟩]
def c_rotalaw03_FrameTurns : IC := (.seq (.ops o_rotalaw03_FrameTurns_0) (.seq (.seq (.ops o_rotalaw03_FrameTurns_1) (.cond (.t 14) (.seq (.ops o_rotalaw03_FrameTurns_2) .ret) .skip)) (.seq (.ops o_rotalaw03_FrameTurns_3) (.seq (.ops o_rotalaw03_FrameTurns_4) (.seq (.ops o_rotalaw03_FrameTurns_5) (.seq (.ops o_rotalaw03_FrameTurns_6) (.seq (.seq (.ops o_rotalaw03_FrameTurns_7) (.cond (.t 42) (.seq (.ops o_rotalaw03_FrameTurns_8) .ret) .skip)) (.seq (.seq (.ops o_rotalaw03_FrameTurns_9) (.block 0 (.loop b_rotalaw03_FrameTurns_14))) (.seq (.ops o_rotalaw03_FrameTurns_15) (.seq (.ops o_rotalaw03_FrameTurns_16) .ret))))))))))
def i_rotalaw03_FrameTurns : IFn := ⟨81, c_rotalaw03_FrameTurns, [(6, none)]⟩

-- F 4 rota/rotaref03.Corrupt: bads 0, calls []
abbrev o_rotaref03_Corrupt_0 : List IOper := [⟨(some 6), .mv (.k (.c (.sl none 0 0 false))), none⟩]
abbrev o_rotaref03_Corrupt_1 : List IOper := [⟨(some 9), .bsl 5 0 [] [], none⟩,
  ⟨(some 10), .mv (.t 0), none⟩,
  ⟨(some 11), .app 5 1 1 (.t 9) (.t 10), none⟩,
  ⟨(some 7), .mv (.t 11), none⟩]
abbrev o_rotaref03_Corrupt_2 : List IOper := [⟨(some 8), .mv (.k (.c (.int .i64 0))), none⟩]
abbrev o_rotaref03_Corrupt_3 : List IOper := [⟨(some 12), .mv (.t 8), none⟩,
  ⟨(some 13), .mv (.t 0), none⟩,
  ⟨(some 14), .len false (.t 13), none⟩,
  ⟨(some 15), .bin .mul (.k (.c (.int .i64 8))) (.t 14), none⟩,
  ⟨(some 16), .bin .lss (.t 12) (.t 15), none⟩]
abbrev o_rotaref03_Corrupt_4 : List IOper := [⟨(some 19), .mv (.t 8), none⟩,
  ⟨(some 20), .mv (.t 1), none⟩,
  ⟨(some 21), .bin .lss (.t 19) (.t 20), none⟩,
  ⟨(some 22), .mv (.t 21), none⟩,
  ⟨(some 23), .mv (.t 8), some (22, false)⟩,
  ⟨(some 24), .bin .sub (.t 23) (.k (.c (.int .i64 31))), some (22, false)⟩,
  ⟨(some 25), .mv (.t 1), some (22, false)⟩,
  ⟨(some 26), .bin .gtr (.t 24) (.t 25), some (22, false)⟩,
  ⟨(some 27), .pick (.t 22) (.k (.c (.bool true))) (.t 26), none⟩]
abbrev o_rotaref03_Corrupt_5 : List IOper := [⟨(some 28), .mv (.t 2), none⟩,
  ⟨(some 29), .mv (.t 8), none⟩,
  ⟨(some 30), .mv (.t 1), none⟩,
  ⟨(some 31), .bin .sub (.t 29) (.t 30), none⟩,
  ⟨(some 32), .cv .u64 (.t 31), none⟩,
  ⟨(some 33), .bin .shr (.t 28) (.t 32), none⟩,
  ⟨(some 34), .bin .rem (.t 33) (.k (.c (.int .u32 2))), none⟩,
  ⟨(some 35), .bin .eql (.t 34) (.k (.c (.int .u32 1))), none⟩]
abbrev o_rotaref03_Corrupt_6 : List IOper := [⟨(some 36), .mv (.t 7), none⟩,
  ⟨(some 37), .mv (.t 8), none⟩,
  ⟨(some 38), .bin .quo (.t 37) (.k (.c (.int .i64 8))), none⟩,
  ⟨(some 39), .mv (.t 7), none⟩,
  ⟨(some 40), .mv (.t 8), none⟩,
  ⟨(some 41), .bin .quo (.t 40) (.k (.c (.int .i64 8))), none⟩,
  ⟨(some 42), .iaS 1 (.t 39) (.t 41), none⟩,
  ⟨(some 43), .ld none (.t 42), none⟩,
  ⟨(some 44), .mv (.t 8), none⟩,
  ⟨(some 45), .bin .rem (.t 44) (.k (.c (.int .i64 8))), none⟩,
  ⟨(some 46), .cv .u64 (.t 45), none⟩,
  ⟨(some 47), .bin .shl (.k (.c (.int .u8 1))) (.t 46), none⟩,
  ⟨(some 48), .bin .xor (.t 43) (.t 47), none⟩,
  ⟨(some 49), .iaS 1 (.t 36) (.t 38), none⟩,
  ⟨none, .st 1 (.t 49) (.t 48), none⟩]
abbrev o_rotaref03_Corrupt_7 : List IOper := [⟨(some 17), .mv (.t 8), none⟩,
  ⟨(some 18), .bin .add (.t 17) (.k (.c (.int .i64 1))), none⟩,
  ⟨(some 8), .mv (.t 18), none⟩]
def b_rotaref03_Corrupt_8 : IC := (.seq (.seq (.ops o_rotaref03_Corrupt_3) (.cond (.t 16) .skip (.exit 0))) (.seq (.block 1 (.seq (.seq (.ops o_rotaref03_Corrupt_4) (.cond (.t 27) (.exit 1) .skip)) (.seq (.ops o_rotaref03_Corrupt_5) (.cond (.t 35) (.ops o_rotaref03_Corrupt_6) .skip)))) (.ops o_rotaref03_Corrupt_7)))
abbrev o_rotaref03_Corrupt_9 : List IOper := [⟨(some 50), .mv (.t 7), none⟩,
  ⟨(some 6), .mv (.t 50), none⟩]
def c_rotaref03_Corrupt : IC := (.seq (.ops o_rotaref03_Corrupt_0) (.seq (.ops o_rotaref03_Corrupt_1) (.seq (.seq (.ops o_rotaref03_Corrupt_2) (.block 0 (.loop b_rotaref03_Corrupt_8))) (.seq (.ops o_rotaref03_Corrupt_9) .ret))))
def i_rotaref03_Corrupt : IFn := ⟨51, c_rotaref03_Corrupt, [(6, none)]⟩

-- F 5 rota/frame.Corrupt: bads 0, calls [6, 7]
abbrev o_frame_Corrupt_0 : List IOper := [⟨(some 3), .box 22 (.t 0), none⟩,
  ⟨(some 4), .box 3 (.t 1), none⟩,
  ⟨(some 6), .mv (.k (.c (.sl none 0 0 false))), none⟩]
abbrev o_frame_Corrupt_1 : List IOper := [⟨(some 10), .ld none (.t 3), none⟩,
  ⟨(some 11), .call (.k (.c (.fn fn_slices_Clone_byte_byte [] []))) [(.t 10)], none⟩,
  ⟨(some 7), .new 22 (.c (.sl none 0 0 false)), none⟩,
  ⟨none, .st 1 (.t 7) (.t 11), none⟩]
abbrev o_frame_Corrupt_2 : List IOper := [⟨(some 12), .ld none (.t 4), none⟩,
  ⟨(some 13), .bin .lss (.t 12) (.k (.c (.int .i64 (-32)))), none⟩,
  ⟨(some 14), .mv (.t 13), none⟩,
  ⟨(some 15), .ld none (.t 4), some (14, false)⟩,
  ⟨(some 16), .ld none (.t 3), some (14, false)⟩,
  ⟨(some 17), .len false (.t 16), some (14, false)⟩,
  ⟨(some 18), .bin .mul (.k (.c (.int .i64 8))) (.t 17), some (14, false)⟩,
  ⟨(some 19), .bin .gtr (.t 15) (.t 18), some (14, false)⟩,
  ⟨(some 20), .pick (.t 14) (.k (.c (.bool true))) (.t 19), none⟩]
abbrev o_frame_Corrupt_3 : List IOper := [⟨(some 21), .ld none (.t 7), none⟩,
  ⟨(some 6), .mv (.t 21), none⟩]
abbrev o_frame_Corrupt_4 : List IOper := [⟨(some 22), .mv (.t 2), none⟩,
  ⟨(some 23), .call (.k (.c (.fn fn_frame_bits [] []))) [(.t 22)], none⟩]
abbrev o_frame_Corrupt_5 : List IOper := [⟨(some 8), .mv (.t 24), none⟩]
abbrev o_frame_Corrupt_6 : List IOper := [⟨(some 25), .ld none (.t 4), none⟩,
  ⟨(some 26), .mv (.t 8), none⟩,
  ⟨(some 27), .bin .add (.t 25) (.t 26), none⟩,
  ⟨(some 9), .mv (.t 27), none⟩]
abbrev o_frame_Corrupt_7 : List IOper := [⟨(some 28), .mv (.t 9), none⟩,
  ⟨(some 29), .bin .geq (.t 28) (.k (.c (.int .i64 0))), none⟩,
  ⟨(some 30), .mv (.t 29), none⟩,
  ⟨(some 31), .mv (.t 9), some (30, true)⟩,
  ⟨(some 32), .ld none (.t 3), some (30, true)⟩,
  ⟨(some 33), .len false (.t 32), some (30, true)⟩,
  ⟨(some 34), .bin .mul (.k (.c (.int .i64 8))) (.t 33), some (30, true)⟩,
  ⟨(some 35), .bin .lss (.t 31) (.t 34), some (30, true)⟩,
  ⟨(some 36), .pick (.t 30) (.t 35) (.k (.c (.bool false))), none⟩]
abbrev o_frame_Corrupt_8 : List IOper := [⟨(some 37), .ld none (.t 7), none⟩,
  ⟨(some 38), .mv (.t 9), none⟩,
  ⟨(some 39), .bin .quo (.t 38) (.k (.c (.int .i64 8))), none⟩,
  ⟨(some 40), .iaS 1 (.t 37) (.t 39), none⟩,
  ⟨(some 41), .ld none (.t 40), none⟩,
  ⟨(some 42), .mv (.t 9), none⟩,
  ⟨(some 43), .bin .rem (.t 42) (.k (.c (.int .i64 8))), none⟩,
  ⟨(some 44), .bin .shl (.k (.c (.int .u8 1))) (.t 43), none⟩,
  ⟨(some 45), .bin .xor (.t 41) (.t 44), none⟩,
  ⟨(some 46), .iaS 1 (.t 37) (.t 39), none⟩,
  ⟨none, .st 1 (.t 46) (.t 45), none⟩]
def a_frame_Corrupt_9 : IC := (.ops o_frame_Corrupt_5)
def b_frame_Corrupt_10 : IC := (.block 1 (.seq (.ops o_frame_Corrupt_6) (.seq (.ops o_frame_Corrupt_7) (.cond (.t 36) (.ops o_frame_Corrupt_8) .skip))))
abbrev o_frame_Corrupt_11 : List IOper := [⟨(some 47), .ld none (.t 7), none⟩,
  ⟨(some 6), .mv (.t 47), none⟩]
def c_frame_Corrupt : IC := (.seq (.ops o_frame_Corrupt_0) (.seq (.ops o_frame_Corrupt_1) (.seq (.seq (.ops o_frame_Corrupt_2) (.cond (.t 20) (.seq (.ops o_frame_Corrupt_3) .ret) .skip)) (.seq (.seq (.ops o_frame_Corrupt_4) (.block 0 (.rangeF (.t 23) [24] a_frame_Corrupt_9 b_frame_Corrupt_10))) (.seq (.ops o_frame_Corrupt_11) .ret)))))
def i_frame_Corrupt : IFn := ⟨48, c_frame_Corrupt, [(6, none)]⟩

-- F 6 slices.Clone[[]byte,byte]: bads 0, calls []
abbrev o_slices_Clone_byte_byte_0 : List IOper := [⟨(some 2), .mv (.k (.c (.sl none 0 0 false))), none⟩]
abbrev o_slices_Clone_byte_byte_1 : List IOper := [⟨(some 3), .mv (.t 0), none⟩,
  ⟨(some 4), .eq .sl false (.t 3) (.k (.c (.sl none 0 0 false))), none⟩]
abbrev o_slices_Clone_byte_byte_2 : List IOper := [⟨(some 2), .mv (.k (.c (.sl none 0 0 false))), none⟩]
abbrev o_slices_Clone_byte_byte_3 : List IOper := [⟨(some 5), .bsl 5 0 [] [], none⟩,
  ⟨(some 6), .mv (.t 0), none⟩,
  ⟨(some 7), .app 5 1 1 (.t 5) (.t 6), none⟩,
  ⟨(some 2), .mv (.t 7), none⟩]
def c_slices_Clone_byte_byte : IC := (.seq (.ops o_slices_Clone_byte_byte_0) (.seq (.seq (.ops o_slices_Clone_byte_byte_1) (.cond (.t 4) (.seq (.ops o_slices_Clone_byte_byte_2) .ret) .skip)) (.seq (.ops o_slices_Clone_byte_byte_3) .ret)))
def i_slices_Clone_byte_byte : IFn := ⟨8, c_slices_Clone_byte_byte, [(2, none)]⟩

-- F 7 rota/frame.bits: bads 0, calls [8]
abbrev o_frame_bits_0 : List IOper := [⟨(some 1), .box 23 (.t 0), none⟩,
  ⟨(some 2), .mv (.k (.c .nilFn)), none⟩]
abbrev o_frame_bits_1 : List IOper := [⟨(some 3), .mkfn fn_frame_bits_1 [] [(.t 1)], none⟩,
  ⟨(some 2), .mv (.t 3), none⟩]
def c_frame_bits : IC := (.seq (.ops o_frame_bits_0) (.seq (.ops o_frame_bits_1) .ret))
def i_frame_bits : IFn := ⟨4, c_frame_bits, [(2, none)]⟩

-- F 8 rota/frame.bits$1: bads 0, calls []
abbrev o_frame_bits_1_0 : List IOper := [⟨(some 4), .mv (.k (.c (.int .i64 0))), none⟩]
abbrev o_frame_bits_1_1 : List IOper := [⟨(some 5), .bin .lss (.t 4) (.k (.c (.int .i64 32))), none⟩]
abbrev o_frame_bits_1_2 : List IOper := [⟨(some 6), .mv (.t 4), none⟩,
  ⟨(some 3), .mv (.t 6), none⟩]
abbrev o_frame_bits_1_3 : List IOper := [⟨(some 7), .ld none (.t 1), none⟩,
  ⟨(some 8), .mv (.t 3), none⟩,
  ⟨(some 9), .bin .shr (.t 7) (.t 8), none⟩,
  ⟨(some 10), .bin .eql (.t 9) (.k (.c (.int .u32 0))), none⟩]
abbrev o_frame_bits_1_4 : List IOper := [⟨(some 11), .ld none (.t 1), none⟩,
  ⟨(some 12), .mv (.t 3), none⟩,
  ⟨(some 13), .bin .shr (.t 11) (.t 12), none⟩,
  ⟨(some 14), .bin .and (.t 13) (.k (.c (.int .u32 1))), none⟩,
  ⟨(some 15), .bin .eql (.t 14) (.k (.c (.int .u32 1))), none⟩,
  ⟨(some 16), .mv (.t 15), none⟩,
  ⟨(some 17), .mv (.t 0), some (16, true)⟩,
  ⟨(some 18), .mv (.t 3), some (16, true)⟩,
  ⟨(some 19), .call (.t 17) [(.t 18)], some (16, true)⟩,
  ⟨(some 20), .un .not (.t 19), some (16, true)⟩,
  ⟨(some 21), .pick (.t 16) (.t 20) (.k (.c (.bool false))), none⟩]
abbrev o_frame_bits_1_5 : List IOper := [⟨(some 22), .bin .add (.t 4) (.k (.c (.int .i64 1))), none⟩,
  ⟨(some 4), .mv (.t 22), none⟩]
def b_frame_bits_1_6 : IC := (.seq (.ops o_frame_bits_1_1) (.seq (.cond (.t 5) .skip (.exit 0)) (.seq (.block 1 (.seq (.ops o_frame_bits_1_2) (.seq (.seq (.ops o_frame_bits_1_3) (.cond (.t 10) (.exit 0) .skip)) (.seq (.ops o_frame_bits_1_4) (.cond (.t 21) (.exit 0) .skip))))) (.ops o_frame_bits_1_5))))
def c_frame_bits_1 : IC := (.seq .skip (.seq .skip (.seq (.ops o_frame_bits_1_0) (.block 0 (.loop b_frame_bits_1_6)))))
def i_frame_bits_1 : IFn := ⟨23, c_frame_bits_1, []⟩

def fs : List (Nat × IFn) := [(fn_rotalaw03_FrameTurns, i_rotalaw03_FrameTurns), (fn_rotaref03_Corrupt, i_rotaref03_Corrupt), (fn_frame_Corrupt, i_frame_Corrupt), (fn_slices_Clone_byte_byte, i_slices_Clone_byte_byte), (fn_frame_bits, i_frame_bits), (fn_frame_bits_1, i_frame_bits_1)]
def F : FuncId → Option Fun := funs fs
theorem e_rotalaw03_FrameTurns : F fn_rotalaw03_FrameTurns = some (.code ⟨81, c_rotalaw03_FrameTurns, [(6, none)]⟩) := by rfl
theorem e_rotaref03_Corrupt : F fn_rotaref03_Corrupt = some (.code ⟨51, c_rotaref03_Corrupt, [(6, none)]⟩) := by rfl
theorem e_frame_Corrupt : F fn_frame_Corrupt = some (.code ⟨48, c_frame_Corrupt, [(6, none)]⟩) := by rfl
theorem e_slices_Clone_byte_byte : F fn_slices_Clone_byte_byte = some (.code ⟨8, c_slices_Clone_byte_byte, [(2, none)]⟩) := by rfl
theorem e_frame_bits : F fn_frame_bits = some (.code ⟨4, c_frame_bits, [(2, none)]⟩) := by rfl
theorem e_frame_bits_1 : F fn_frame_bits_1 = some (.code ⟨23, c_frame_bits_1, []⟩) := by rfl
end Go.Proofs.Ytioeobdejeikmaa.AM.T03
