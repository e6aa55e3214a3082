/- The functions of these laws as the abstract machine's code, printed by a program of this claim's. -/
import Derived.Test.YteiiddefimpplaaIRF08a
set_option linter.unusedVariables false
set_option linter.unusedSimpArgs false
set_option linter.unusedSectionVars false
namespace Go.Proofs.Yteiiddefimpplaa.AM.F08
open Go Go.Proofs.Yteiiddefimpplaa.AM
-- F 52 rota/rotaref02.links: bads 0, calls [76, 76, 72, 74]
abbrev o_rotaref02_links_0 : List IOper := [⟨(some 1), .box 28 (.t 0), none⟩,
  ⟨(some 2), .mv (.k (.c (.bool false))), none⟩]
abbrev o_rotaref02_links_1 : List IOper := [⟨(some 15), .fa 11 (.t 1), none⟩,
  ⟨(some 16), .ld none (.t 15), none⟩,
  ⟨(some 17), .len false (.t 16), none⟩,
  ⟨(some 18), .bin .gtr (.t 17) (.k (.c (.int .i64 64))), none⟩]
abbrev o_rotaref02_links_2 : List IOper := [⟨(some 2), .mv (.k (.c (.bool false))), none⟩]
abbrev o_rotaref02_links_3 : List IOper := [⟨(some 3), .mv (.k (.c (.sl none 0 0 false))), none⟩]
abbrev o_rotaref02_links_4 : List IOper := [⟨(some 4), .mv (.k (.c (.int .i64 0))), none⟩]
abbrev o_rotaref02_links_5 : List IOper := [⟨(some 19), .mv (.t 4), none⟩,
  ⟨(some 20), .fa 11 (.t 1), none⟩,
  ⟨(some 21), .ld none (.t 20), none⟩,
  ⟨(some 22), .len false (.t 21), none⟩,
  ⟨(some 23), .bin .lss (.t 19) (.t 22), none⟩]
abbrev o_rotaref02_links_6 : List IOper := [⟨(some 26), .fa 11 (.t 1), none⟩,
  ⟨(some 27), .ld none (.t 26), none⟩,
  ⟨(some 28), .mv (.t 4), none⟩,
  ⟨(some 29), .iaS 3 (.t 27) (.t 28), none⟩,
  ⟨(some 30), .ld (some 3) (.t 29), none⟩,
  ⟨(some 5), .new 93 (.agg [(.int .i64 0), (.sl none 0 0 false), (.int .i64 0)]), none⟩,
  ⟨none, .st 3 (.t 5) (.t 30), none⟩]
abbrev o_rotaref02_links_7 : List IOper := [⟨(some 31), .ld (some 12) (.t 1), none⟩,
  ⟨(some 32), .fa 0 (.t 5), none⟩,
  ⟨(some 33), .ld none (.t 32), none⟩,
  ⟨(some 34), .call (.k (.c (.fn fn_rotaref02_is [] []))) [(.t 31), (.t 33)], none⟩,
  ⟨(some 35), .un .not (.t 34), none⟩,
  ⟨(some 36), .mv (.t 35), none⟩,
  ⟨(some 37), .fa 10 (.t 1), some (36, false)⟩,
  ⟨(some 38), .ld none (.t 37), some (36, false)⟩,
  ⟨(some 39), .fa 0 (.t 5), some (36, false)⟩,
  ⟨(some 40), .ld none (.t 39), some (36, false)⟩,
  ⟨(some 41), .iaS 6 (.t 38) (.t 40), some (36, false)⟩,
  ⟨(some 42), .fa 2 (.t 41), some (36, false)⟩,
  ⟨(some 43), .ld none (.t 42), some (36, false)⟩,
  ⟨(some 44), .bin .neq (.t 43) (.k (.c (.int .i64 1))), some (36, false)⟩,
  ⟨(some 45), .pick (.t 36) (.k (.c (.bool true))) (.t 44), none⟩,
  ⟨(some 46), .mv (.t 45), none⟩,
  ⟨(some 47), .fa 1 (.t 5), some (46, false)⟩,
  ⟨(some 48), .ld none (.t 47), some (46, false)⟩,
  ⟨(some 49), .len false (.t 48), some (46, false)⟩,
  ⟨(some 50), .bin .eql (.t 49) (.k (.c (.int .i64 0))), some (46, false)⟩,
  ⟨(some 51), .pick (.t 46) (.k (.c (.bool true))) (.t 50), none⟩,
  ⟨(some 52), .mv (.t 51), none⟩,
  ⟨(some 53), .fa 2 (.t 5), some (52, false)⟩,
  ⟨(some 54), .ld none (.t 53), some (52, false)⟩,
  ⟨(some 55), .bin .lss (.t 54) (.k (.c (.int .i64 0))), some (52, false)⟩,
  ⟨(some 56), .pick (.t 52) (.k (.c (.bool true))) (.t 55), none⟩,
  ⟨(some 57), .mv (.t 56), none⟩,
  ⟨(some 58), .fa 2 (.t 5), some (57, false)⟩,
  ⟨(some 59), .ld none (.t 58), some (57, false)⟩,
  ⟨(some 60), .bin .gtr (.t 59) (.k (.c (.int .i64 64))), some (57, false)⟩,
  ⟨(some 61), .pick (.t 57) (.k (.c (.bool true))) (.t 60), none⟩,
  ⟨(some 62), .mv (.t 61), none⟩,
  ⟨(some 63), .fa 2 (.t 5), some (62, false)⟩,
  ⟨(some 64), .ld none (.t 63), some (62, false)⟩,
  ⟨(some 65), .bin .add (.t 64) (.k (.c (.int .i64 1))), some (62, false)⟩,
  ⟨(some 66), .fa 10 (.t 1), some (62, false)⟩,
  ⟨(some 67), .ld none (.t 66), some (62, false)⟩,
  ⟨(some 68), .fa 0 (.t 5), some (62, false)⟩,
  ⟨(some 69), .ld none (.t 68), some (62, false)⟩,
  ⟨(some 70), .iaS 6 (.t 67) (.t 69), some (62, false)⟩,
  ⟨(some 71), .fa 3 (.t 70), some (62, false)⟩,
  ⟨(some 72), .ld none (.t 71), some (62, false)⟩,
  ⟨(some 73), .bin .add (.t 65) (.t 72), some (62, false)⟩,
  ⟨(some 74), .bin .gtr (.t 73) (.k (.c (.int .i64 64))), some (62, false)⟩,
  ⟨(some 75), .pick (.t 62) (.k (.c (.bool true))) (.t 74), none⟩]
abbrev o_rotaref02_links_8 : List IOper := [⟨(some 2), .mv (.k (.c (.bool false))), none⟩]
abbrev o_rotaref02_links_9 : List IOper := [⟨(some 76), .mv (.t 3), none⟩,
  ⟨(some 77), .fa 0 (.t 5), none⟩,
  ⟨(some 78), .ld none (.t 77), none⟩,
  ⟨(some 79), .bsl 3 1 [(.int .i64 0)] [(0, 1, (.t 78))], none⟩,
  ⟨(some 80), .app 3 1 8 (.t 76) (.t 79), none⟩,
  ⟨(some 3), .mv (.t 80), none⟩]
abbrev o_rotaref02_links_10 : List IOper := [⟨(some 6), .mv (.k (.c (.int .i64 0))), none⟩]
abbrev o_rotaref02_links_11 : List IOper := [⟨(some 81), .mv (.t 6), none⟩,
  ⟨(some 82), .fa 1 (.t 5), none⟩,
  ⟨(some 83), .ld none (.t 82), none⟩,
  ⟨(some 84), .len false (.t 83), none⟩,
  ⟨(some 85), .bin .lss (.t 81) (.t 84), none⟩]
abbrev o_rotaref02_links_12 : List IOper := [⟨(some 88), .fa 1 (.t 5), none⟩,
  ⟨(some 89), .ld none (.t 88), none⟩,
  ⟨(some 90), .mv (.t 6), none⟩,
  ⟨(some 91), .iaS 1 (.t 89) (.t 90), none⟩,
  ⟨(some 92), .ld none (.t 91), none⟩,
  ⟨(some 7), .mv (.t 92), none⟩]
abbrev o_rotaref02_links_13 : List IOper := [⟨(some 93), .ld (some 12) (.t 1), none⟩,
  ⟨(some 94), .mv (.t 7), none⟩,
  ⟨(some 95), .call (.k (.c (.fn fn_rotaref02_is [] []))) [(.t 93), (.t 94)], none⟩,
  ⟨(some 96), .un .not (.t 95), none⟩,
  ⟨(some 97), .mv (.t 96), none⟩,
  ⟨(some 98), .fa 10 (.t 1), some (97, false)⟩,
  ⟨(some 99), .ld none (.t 98), some (97, false)⟩,
  ⟨(some 100), .mv (.t 7), some (97, false)⟩,
  ⟨(some 101), .iaS 6 (.t 99) (.t 100), some (97, false)⟩,
  ⟨(some 102), .fa 2 (.t 101), some (97, false)⟩,
  ⟨(some 103), .ld none (.t 102), some (97, false)⟩,
  ⟨(some 104), .bin .neq (.t 103) (.k (.c (.int .i64 2))), some (97, false)⟩,
  ⟨(some 105), .pick (.t 97) (.k (.c (.bool true))) (.t 104), none⟩,
  ⟨(some 106), .mv (.t 105), none⟩,
  ⟨(some 107), .fa 10 (.t 1), some (106, false)⟩,
  ⟨(some 108), .ld none (.t 107), some (106, false)⟩,
  ⟨(some 109), .mv (.t 7), some (106, false)⟩,
  ⟨(some 110), .iaS 6 (.t 108) (.t 109), some (106, false)⟩,
  ⟨(some 111), .fa 1 (.t 110), some (106, false)⟩,
  ⟨(some 112), .ld none (.t 111), some (106, false)⟩,
  ⟨(some 113), .fa 10 (.t 1), some (106, false)⟩,
  ⟨(some 114), .ld none (.t 113), some (106, false)⟩,
  ⟨(some 115), .fa 0 (.t 5), some (106, false)⟩,
  ⟨(some 116), .ld none (.t 115), some (106, false)⟩,
  ⟨(some 117), .iaS 6 (.t 114) (.t 116), some (106, false)⟩,
  ⟨(some 118), .fa 1 (.t 117), some (106, false)⟩,
  ⟨(some 119), .ld none (.t 118), some (106, false)⟩,
  ⟨(some 120), .bin .neq (.t 112) (.t 119), some (106, false)⟩,
  ⟨(some 121), .pick (.t 106) (.k (.c (.bool true))) (.t 120), none⟩,
  ⟨(some 122), .mv (.t 121), none⟩,
  ⟨(some 123), .fa 10 (.t 1), some (122, false)⟩,
  ⟨(some 124), .ld none (.t 123), some (122, false)⟩,
  ⟨(some 125), .mv (.t 7), some (122, false)⟩,
  ⟨(some 126), .iaS 6 (.t 124) (.t 125), some (122, false)⟩,
  ⟨(some 127), .fa 3 (.t 126), some (122, false)⟩,
  ⟨(some 128), .ld none (.t 127), some (122, false)⟩,
  ⟨(some 129), .fa 10 (.t 1), some (122, false)⟩,
  ⟨(some 130), .ld none (.t 129), some (122, false)⟩,
  ⟨(some 131), .fa 0 (.t 5), some (122, false)⟩,
  ⟨(some 132), .ld none (.t 131), some (122, false)⟩,
  ⟨(some 133), .iaS 6 (.t 130) (.t 132), some (122, false)⟩,
  ⟨(some 134), .fa 3 (.t 133), some (122, false)⟩,
  ⟨(some 135), .ld none (.t 134), some (122, false)⟩,
  ⟨(some 136), .bin .neq (.t 128) (.t 135), some (122, false)⟩,
  ⟨(some 137), .pick (.t 122) (.k (.c (.bool true))) (.t 136), none⟩]
abbrev o_rotaref02_links_14 : List IOper := [⟨(some 2), .mv (.k (.c (.bool false))), none⟩]
abbrev o_rotaref02_links_15 : List IOper := [⟨(some 138), .mv (.t 3), none⟩,
  ⟨(some 139), .mv (.t 7), none⟩,
  ⟨(some 140), .bsl 3 1 [(.int .i64 0)] [(0, 1, (.t 139))], none⟩,
  ⟨(some 141), .app 3 1 8 (.t 138) (.t 140), none⟩,
  ⟨(some 3), .mv (.t 141), none⟩]
abbrev o_rotaref02_links_16 : List IOper := [⟨(some 86), .mv (.t 6), none⟩,
  ⟨(some 87), .bin .add (.t 86) (.k (.c (.int .i64 1))), none⟩,
  ⟨(some 6), .mv (.t 87), none⟩]
def b_rotaref02_links_17 : IC := (.seq (.seq (.ops o_rotaref02_links_11) (.cond (.t 85) .skip (.exit 2))) (.seq (.block 3 (.seq (.ops o_rotaref02_links_12) (.seq (.seq (.ops o_rotaref02_links_13) (.cond (.t 137) (.seq (.ops o_rotaref02_links_14) .ret) .skip)) (.ops o_rotaref02_links_15)))) (.ops o_rotaref02_links_16)))
abbrev o_rotaref02_links_18 : List IOper := [⟨(some 142), .mv (.t 3), none⟩,
  ⟨(some 143), .len false (.t 142), none⟩,
  ⟨(some 144), .fa 10 (.t 1), none⟩,
  ⟨(some 145), .ld none (.t 144), none⟩,
  ⟨(some 146), .len false (.t 145), none⟩,
  ⟨(some 147), .bin .gtr (.t 143) (.t 146), none⟩]
abbrev o_rotaref02_links_19 : List IOper := [⟨(some 2), .mv (.k (.c (.bool false))), none⟩]
abbrev o_rotaref02_links_20 : List IOper := [⟨(some 24), .mv (.t 4), none⟩,
  ⟨(some 25), .bin .add (.t 24) (.k (.c (.int .i64 1))), none⟩,
  ⟨(some 4), .mv (.t 25), none⟩]
def b_rotaref02_links_21 : IC := (.seq (.seq (.ops o_rotaref02_links_5) (.cond (.t 23) .skip (.exit 0))) (.seq (.block 1 (.seq (.ops o_rotaref02_links_6) (.seq (.seq (.ops o_rotaref02_links_7) (.cond (.t 75) (.seq (.ops o_rotaref02_links_8) .ret) .skip)) (.seq (.ops o_rotaref02_links_9) (.seq (.seq (.ops o_rotaref02_links_10) (.block 2 (.loop b_rotaref02_links_17))) (.seq (.ops o_rotaref02_links_18) (.cond (.t 147) (.seq (.ops o_rotaref02_links_19) .ret) .skip))))))) (.ops o_rotaref02_links_20)))
abbrev o_rotaref02_links_22 : List IOper := [⟨(some 8), .mv (.k (.c (.int .i64 0))), none⟩]
abbrev o_rotaref02_links_23 : List IOper := [⟨(some 148), .mv (.t 8), none⟩,
  ⟨(some 149), .fa 10 (.t 1), none⟩,
  ⟨(some 150), .ld none (.t 149), none⟩,
  ⟨(some 151), .len false (.t 150), none⟩,
  ⟨(some 152), .bin .lss (.t 148) (.t 151), none⟩]
abbrev o_rotaref02_links_24 : List IOper := [⟨(some 155), .mv (.t 3), none⟩,
  ⟨(some 156), .mv (.t 8), none⟩,
  ⟨(some 157), .call (.k (.c (.fn fn_rotaref02_count [] []))) [(.t 155), (.t 156)], none⟩,
  ⟨(some 158), .bin .gtr (.t 157) (.k (.c (.int .i64 1))), none⟩]
abbrev o_rotaref02_links_25 : List IOper := [⟨(some 2), .mv (.k (.c (.bool false))), none⟩]
abbrev o_rotaref02_links_26 : List IOper := [⟨(some 153), .mv (.t 8), none⟩,
  ⟨(some 154), .bin .add (.t 153) (.k (.c (.int .i64 1))), none⟩,
  ⟨(some 8), .mv (.t 154), none⟩]
def b_rotaref02_links_27 : IC := (.seq (.seq (.ops o_rotaref02_links_23) (.cond (.t 152) .skip (.exit 4))) (.seq (.block 5 (.seq (.ops o_rotaref02_links_24) (.cond (.t 158) (.seq (.ops o_rotaref02_links_25) .ret) .skip))) (.ops o_rotaref02_links_26)))
abbrev o_rotaref02_links_28 : List IOper := [⟨(some 9), .mv (.k (.c (.int .i64 0))), none⟩]
abbrev o_rotaref02_links_29 : List IOper := [⟨(some 159), .mv (.t 9), none⟩,
  ⟨(some 160), .fa 11 (.t 1), none⟩,
  ⟨(some 161), .ld none (.t 160), none⟩,
  ⟨(some 162), .len false (.t 161), none⟩,
  ⟨(some 163), .bin .lss (.t 159) (.t 162), none⟩]
abbrev o_rotaref02_links_30 : List IOper := [⟨(some 10), .mv (.k (.c (.int .i64 0))), none⟩]
abbrev o_rotaref02_links_31 : List IOper := [⟨(some 166), .mv (.t 10), none⟩,
  ⟨(some 167), .mv (.t 9), none⟩,
  ⟨(some 168), .bin .lss (.t 166) (.t 167), none⟩]
abbrev o_rotaref02_links_32 : List IOper := [⟨(some 171), .fa 11 (.t 1), none⟩,
  ⟨(some 172), .ld none (.t 171), none⟩,
  ⟨(some 173), .mv (.t 9), none⟩,
  ⟨(some 174), .iaS 3 (.t 172) (.t 173), none⟩,
  ⟨(some 175), .ld (some 3) (.t 174), none⟩,
  ⟨(some 11), .new 93 (.agg [(.int .i64 0), (.sl none 0 0 false), (.int .i64 0)]), none⟩,
  ⟨none, .st 3 (.t 11) (.t 175), none⟩]
abbrev o_rotaref02_links_33 : List IOper := [⟨(some 176), .fa 11 (.t 1), none⟩,
  ⟨(some 177), .ld none (.t 176), none⟩,
  ⟨(some 178), .mv (.t 10), none⟩,
  ⟨(some 179), .iaS 3 (.t 177) (.t 178), none⟩,
  ⟨(some 180), .ld (some 3) (.t 179), none⟩,
  ⟨(some 12), .new 93 (.agg [(.int .i64 0), (.sl none 0 0 false), (.int .i64 0)]), none⟩,
  ⟨none, .st 3 (.t 12) (.t 180), none⟩]
abbrev o_rotaref02_links_34 : List IOper := [⟨(some 181), .fa 10 (.t 1), none⟩,
  ⟨(some 182), .ld none (.t 181), none⟩,
  ⟨(some 183), .fa 0 (.t 11), none⟩,
  ⟨(some 184), .ld none (.t 183), none⟩,
  ⟨(some 185), .iaS 6 (.t 182) (.t 184), none⟩,
  ⟨(some 186), .ld (some 6) (.t 185), none⟩,
  ⟨(some 13), .new 91 (.agg (List.replicate 6 (.int .i64 0))), none⟩,
  ⟨none, .st 6 (.t 13) (.t 186), none⟩]
abbrev o_rotaref02_links_35 : List IOper := [⟨(some 187), .fa 10 (.t 1), none⟩,
  ⟨(some 188), .ld none (.t 187), none⟩,
  ⟨(some 189), .fa 0 (.t 12), none⟩,
  ⟨(some 190), .ld none (.t 189), none⟩,
  ⟨(some 191), .iaS 6 (.t 188) (.t 190), none⟩,
  ⟨(some 192), .ld (some 6) (.t 191), none⟩,
  ⟨(some 14), .new 91 (.agg (List.replicate 6 (.int .i64 0))), none⟩,
  ⟨none, .st 6 (.t 14) (.t 192), none⟩]
abbrev o_rotaref02_links_36 : List IOper := [⟨(some 193), .fa 8 (.t 1), none⟩,
  ⟨(some 194), .ld none (.t 193), none⟩,
  ⟨(some 195), .fa 0 (.t 13), none⟩,
  ⟨(some 196), .ld none (.t 195), none⟩,
  ⟨(some 197), .iaS 3 (.t 194) (.t 196), none⟩,
  ⟨(some 198), .fa 0 (.t 197), none⟩,
  ⟨(some 199), .ld none (.t 198), none⟩,
  ⟨(some 200), .fa 8 (.t 1), none⟩,
  ⟨(some 201), .ld none (.t 200), none⟩,
  ⟨(some 202), .fa 0 (.t 14), none⟩,
  ⟨(some 203), .ld none (.t 202), none⟩,
  ⟨(some 204), .iaS 3 (.t 201) (.t 203), none⟩,
  ⟨(some 205), .fa 0 (.t 204), none⟩,
  ⟨(some 206), .ld none (.t 205), none⟩,
  ⟨(some 207), .bin .eql (.t 199) (.t 206), none⟩,
  ⟨(some 208), .mv (.t 207), none⟩,
  ⟨(some 209), .fa 2 (.t 11), some (208, true)⟩,
  ⟨(some 210), .ld none (.t 209), some (208, true)⟩,
  ⟨(some 211), .fa 2 (.t 11), some (208, true)⟩,
  ⟨(some 212), .ld none (.t 211), some (208, true)⟩,
  ⟨(some 213), .bin .add (.t 212) (.k (.c (.int .i64 1))), some (208, true)⟩,
  ⟨(some 214), .fa 3 (.t 13), some (208, true)⟩,
  ⟨(some 215), .ld none (.t 214), some (208, true)⟩,
  ⟨(some 216), .bin .add (.t 213) (.t 215), some (208, true)⟩,
  ⟨(some 217), .fa 2 (.t 12), some (208, true)⟩,
  ⟨(some 218), .ld none (.t 217), some (208, true)⟩,
  ⟨(some 219), .fa 2 (.t 12), some (208, true)⟩,
  ⟨(some 220), .ld none (.t 219), some (208, true)⟩,
  ⟨(some 221), .bin .add (.t 220) (.k (.c (.int .i64 1))), some (208, true)⟩,
  ⟨(some 222), .fa 3 (.t 14), some (208, true)⟩,
  ⟨(some 223), .ld none (.t 222), some (208, true)⟩,
  ⟨(some 224), .bin .add (.t 221) (.t 223), some (208, true)⟩,
  ⟨(some 225), .call (.k (.c (.fn fn_rotaref02_meet [] []))) [(.t 210), (.t 216), (.t 218), (.t 224)], some (208, true)⟩,
  ⟨(some 226), .pick (.t 208) (.t 225) (.k (.c (.bool false))), none⟩]
abbrev o_rotaref02_links_37 : List IOper := [⟨(some 2), .mv (.k (.c (.bool false))), none⟩]
abbrev o_rotaref02_links_38 : List IOper := [⟨(some 169), .mv (.t 10), none⟩,
  ⟨(some 170), .bin .add (.t 169) (.k (.c (.int .i64 1))), none⟩,
  ⟨(some 10), .mv (.t 170), none⟩]
def b_rotaref02_links_39 : IC := (.seq (.seq (.ops o_rotaref02_links_31) (.cond (.t 168) .skip (.exit 8))) (.seq (.block 9 (.seq (.ops o_rotaref02_links_32) (.seq (.ops o_rotaref02_links_33) (.seq (.ops o_rotaref02_links_34) (.seq (.ops o_rotaref02_links_35) (.seq (.ops o_rotaref02_links_36) (.cond (.t 226) (.seq (.ops o_rotaref02_links_37) .ret) .skip))))))) (.ops o_rotaref02_links_38)))
abbrev o_rotaref02_links_40 : List IOper := [⟨(some 164), .mv (.t 9), none⟩,
  ⟨(some 165), .bin .add (.t 164) (.k (.c (.int .i64 1))), none⟩,
  ⟨(some 9), .mv (.t 165), none⟩]
def b_rotaref02_links_41 : IC := (.seq (.seq (.ops o_rotaref02_links_29) (.cond (.t 163) .skip (.exit 6))) (.seq (.block 7 (.seq (.ops o_rotaref02_links_30) (.block 8 (.loop b_rotaref02_links_39)))) (.ops o_rotaref02_links_40)))
abbrev o_rotaref02_links_42 : List IOper := [⟨(some 2), .mv (.k (.c (.bool true))), none⟩]
def c_rotaref02_links : IC := (.seq (.ops o_rotaref02_links_0) (.seq (.seq (.ops o_rotaref02_links_1) (.cond (.t 18) (.seq (.ops o_rotaref02_links_2) .ret) .skip)) (.seq (.ops o_rotaref02_links_3) (.seq (.seq (.ops o_rotaref02_links_4) (.block 0 (.loop b_rotaref02_links_21))) (.seq (.seq (.ops o_rotaref02_links_22) (.block 4 (.loop b_rotaref02_links_27))) (.seq (.seq (.ops o_rotaref02_links_28) (.block 6 (.loop b_rotaref02_links_41))) (.seq (.ops o_rotaref02_links_42) .ret)))))))
def i_rotaref02_links : IFn := ⟨227, c_rotaref02_links, [(2, none)]⟩

-- F 53 rota/rotaref08.Cut: bads 0, calls []
abbrev o_rotaref08_Cut_0 : List IOper := [⟨(some 4), .mv (.k (.c (.int .i64 0))), none⟩]
abbrev o_rotaref08_Cut_1 : List IOper := [⟨(some 5), .mv (.t 0), none⟩,
  ⟨(some 6), .mv (.t 1), none⟩,
  ⟨(some 7), .bin .gtr (.t 5) (.t 6), none⟩]
abbrev o_rotaref08_Cut_2 : List IOper := [⟨(some 8), .mv (.t 1), none⟩,
  ⟨(some 4), .mv (.t 8), none⟩]
abbrev o_rotaref08_Cut_3 : List IOper := [⟨(some 9), .mv (.t 0), none⟩,
  ⟨(some 10), .mv (.t 1), none⟩,
  ⟨(some 11), .un .neg (.t 10), none⟩,
  ⟨(some 12), .bin .lss (.t 9) (.t 11), none⟩]
abbrev o_rotaref08_Cut_4 : List IOper := [⟨(some 13), .mv (.t 1), none⟩,
  ⟨(some 14), .un .neg (.t 13), none⟩,
  ⟨(some 4), .mv (.t 14), none⟩]
abbrev o_rotaref08_Cut_5 : List IOper := [⟨(some 15), .mv (.t 0), none⟩,
  ⟨(some 4), .mv (.t 15), none⟩]
def c_rotaref08_Cut : IC := (.seq (.ops o_rotaref08_Cut_0) (.seq (.seq (.ops o_rotaref08_Cut_1) (.cond (.t 7) (.seq (.ops o_rotaref08_Cut_2) .ret) .skip)) (.seq (.seq (.ops o_rotaref08_Cut_3) (.cond (.t 12) (.seq (.ops o_rotaref08_Cut_4) .ret) .skip)) (.seq (.ops o_rotaref08_Cut_5) .ret))))
def i_rotaref08_Cut : IFn := ⟨16, c_rotaref08_Cut, [(4, none)]⟩

-- F 54 rota/rotaref08.Is: bads 0, calls []
abbrev o_rotaref08_Is_0 : List IOper := [⟨(some 4), .mv (.k (.c (.bool false))), none⟩]
abbrev o_rotaref08_Is_1 : List IOper := [⟨(some 5), .mv (.k (.c (.int .i64 0))), none⟩]
abbrev o_rotaref08_Is_2 : List IOper := [⟨(some 6), .mv (.t 5), none⟩,
  ⟨(some 7), .mv (.t 1), none⟩,
  ⟨(some 8), .bin .lss (.t 6) (.t 7), none⟩]
abbrev o_rotaref08_Is_3 : List IOper := [⟨(some 11), .mv (.t 0), none⟩,
  ⟨(some 12), .bin .quo (.t 11) (.k (.c (.int .u16 2))), none⟩,
  ⟨(some 0), .mv (.t 12), none⟩]
abbrev o_rotaref08_Is_4 : List IOper := [⟨(some 9), .mv (.t 5), none⟩,
  ⟨(some 10), .bin .add (.t 9) (.k (.c (.int .i64 1))), none⟩,
  ⟨(some 5), .mv (.t 10), none⟩]
def b_rotaref08_Is_5 : IC := (.seq (.seq (.ops o_rotaref08_Is_2) (.cond (.t 8) .skip (.exit 0))) (.seq (.block 1 (.ops o_rotaref08_Is_3)) (.ops o_rotaref08_Is_4)))
abbrev o_rotaref08_Is_6 : List IOper := [⟨(some 13), .mv (.t 0), none⟩,
  ⟨(some 14), .bin .rem (.t 13) (.k (.c (.int .u16 2))), none⟩,
  ⟨(some 15), .bin .eql (.t 14) (.k (.c (.int .u16 1))), none⟩,
  ⟨(some 4), .mv (.t 15), none⟩]
def c_rotaref08_Is : IC := (.seq (.ops o_rotaref08_Is_0) (.seq (.seq (.ops o_rotaref08_Is_1) (.block 0 (.loop b_rotaref08_Is_5))) (.seq (.ops o_rotaref08_Is_6) .ret)))
def i_rotaref08_Is : IFn := ⟨16, c_rotaref08_Is, [(4, none)]⟩

-- F 55 rota/rotaref08.Middle: bads 0, calls [77]
abbrev o_rotaref08_Middle_0 : List IOper := [⟨(some 2), .mv (.k (.c (.int .i64 0))), none⟩,
  ⟨(some 3), .mv (.k (.c (.bool false))), none⟩]
abbrev o_rotaref08_Middle_1 : List IOper := [⟨(some 4), .mv (.k (.c (.sl none 0 0 false))), none⟩]
abbrev o_rotaref08_Middle_2 : List IOper := [⟨(some 5), .mv (.k (.c (.int .i64 0))), none⟩]
abbrev o_rotaref08_Middle_3 : List IOper := [⟨(some 10), .mv (.t 5), none⟩,
  ⟨(some 11), .mv (.t 0), none⟩,
  ⟨(some 12), .len false (.t 11), none⟩,
  ⟨(some 13), .bin .lss (.t 10) (.t 12), none⟩]
abbrev o_rotaref08_Middle_4 : List IOper := [⟨(some 6), .mv (.k (.c (.int .i64 0))), none⟩]
abbrev o_rotaref08_Middle_5 : List IOper := [⟨(some 16), .mv (.t 6), none⟩,
  ⟨(some 17), .mv (.t 4), none⟩,
  ⟨(some 18), .len false (.t 17), none⟩,
  ⟨(some 19), .bin .lss (.t 16) (.t 18), none⟩,
  ⟨(some 20), .mv (.t 19), none⟩,
  ⟨(some 21), .mv (.t 4), some (20, true)⟩,
  ⟨(some 22), .mv (.t 6), some (20, true)⟩,
  ⟨(some 23), .iaS 1 (.t 21) (.t 22), some (20, true)⟩,
  ⟨(some 24), .ld none (.t 23), some (20, true)⟩,
  ⟨(some 25), .mv (.t 0), some (20, true)⟩,
  ⟨(some 26), .mv (.t 5), some (20, true)⟩,
  ⟨(some 27), .iaS 1 (.t 25) (.t 26), some (20, true)⟩,
  ⟨(some 28), .ld none (.t 27), some (20, true)⟩,
  ⟨(some 29), .bin .lss (.t 24) (.t 28), some (20, true)⟩,
  ⟨(some 30), .pick (.t 20) (.t 29) (.k (.c (.bool false))), none⟩]
abbrev o_rotaref08_Middle_6 : List IOper := [⟨(some 31), .mv (.t 6), none⟩,
  ⟨(some 32), .bin .add (.t 31) (.k (.c (.int .i64 1))), none⟩,
  ⟨(some 6), .mv (.t 32), none⟩]
def b_rotaref08_Middle_7 : IC := (.seq (.seq (.ops o_rotaref08_Middle_5) (.cond (.t 30) .skip (.exit 2))) (.block 3 (.ops o_rotaref08_Middle_6)))
abbrev o_rotaref08_Middle_8 : List IOper := [⟨(some 7), .mv (.k (.c (.sl none 0 0 false))), none⟩]
abbrev o_rotaref08_Middle_9 : List IOper := [⟨(some 33), .mv (.t 7), none⟩,
  ⟨(some 34), .mv (.t 4), none⟩,
  ⟨(some 35), .mv (.t 6), none⟩,
  ⟨(some 36), .slS 1 (.t 34) none (some (.t 35)) none, none⟩,
  ⟨(some 37), .app 3 1 8 (.t 33) (.t 36), none⟩,
  ⟨(some 7), .mv (.t 37), none⟩]
abbrev o_rotaref08_Middle_10 : List IOper := [⟨(some 38), .mv (.t 7), none⟩,
  ⟨(some 39), .mv (.t 0), none⟩,
  ⟨(some 40), .mv (.t 5), none⟩,
  ⟨(some 41), .iaS 1 (.t 39) (.t 40), none⟩,
  ⟨(some 42), .ld none (.t 41), none⟩,
  ⟨(some 43), .bsl 3 1 [(.int .i64 0)] [(0, 1, (.t 42))], none⟩,
  ⟨(some 44), .app 3 1 8 (.t 38) (.t 43), none⟩,
  ⟨(some 7), .mv (.t 44), none⟩]
abbrev o_rotaref08_Middle_11 : List IOper := [⟨(some 45), .mv (.t 7), none⟩,
  ⟨(some 46), .mv (.t 4), none⟩,
  ⟨(some 47), .mv (.t 6), none⟩,
  ⟨(some 48), .slS 1 (.t 46) (some (.t 47)) none none, none⟩,
  ⟨(some 49), .app 3 1 8 (.t 45) (.t 48), none⟩,
  ⟨(some 4), .mv (.t 49), none⟩]
abbrev o_rotaref08_Middle_12 : List IOper := [⟨(some 14), .mv (.t 5), none⟩,
  ⟨(some 15), .bin .add (.t 14) (.k (.c (.int .i64 1))), none⟩,
  ⟨(some 5), .mv (.t 15), none⟩]
def b_rotaref08_Middle_13 : IC := (.seq (.seq (.ops o_rotaref08_Middle_3) (.cond (.t 13) .skip (.exit 0))) (.seq (.block 1 (.seq (.ops o_rotaref08_Middle_4) (.seq (.block 2 (.loop b_rotaref08_Middle_7)) (.seq (.ops o_rotaref08_Middle_8) (.seq (.ops o_rotaref08_Middle_9) (.seq (.ops o_rotaref08_Middle_10) (.ops o_rotaref08_Middle_11))))))) (.ops o_rotaref08_Middle_12)))
abbrev o_rotaref08_Middle_14 : List IOper := [⟨(some 50), .mv (.t 4), none⟩,
  ⟨(some 51), .len false (.t 50), none⟩,
  ⟨(some 52), .bin .eql (.t 51) (.k (.c (.int .i64 0))), none⟩]
abbrev o_rotaref08_Middle_15 : List IOper := [⟨(some 2), .mv (.k (.c (.int .i64 0))), none⟩,
  ⟨(some 3), .mv (.k (.c (.bool false))), none⟩]
abbrev o_rotaref08_Middle_16 : List IOper := [⟨(some 53), .mv (.t 4), none⟩,
  ⟨(some 54), .iaS 1 (.t 53) (.k (.c (.int .i64 0))), none⟩,
  ⟨(some 55), .ld none (.t 54), none⟩,
  ⟨(some 8), .mv (.t 55), none⟩]
abbrev o_rotaref08_Middle_17 : List IOper := [⟨(some 56), .mv (.t 4), none⟩,
  ⟨(some 57), .mv (.t 4), none⟩,
  ⟨(some 58), .len false (.t 57), none⟩,
  ⟨(some 59), .bin .sub (.t 58) (.k (.c (.int .i64 1))), none⟩,
  ⟨(some 60), .iaS 1 (.t 56) (.t 59), none⟩,
  ⟨(some 61), .ld none (.t 60), none⟩,
  ⟨(some 9), .mv (.t 61), none⟩]
abbrev o_rotaref08_Middle_18 : List IOper := [⟨(some 62), .mv (.t 4), none⟩,
  ⟨(some 63), .len false (.t 62), none⟩,
  ⟨(some 64), .bin .gtr (.t 63) (.k (.c (.int .i64 2))), none⟩]
abbrev o_rotaref08_Middle_19 : List IOper := [⟨(some 65), .mv (.t 4), none⟩,
  ⟨(some 66), .iaS 1 (.t 65) (.k (.c (.int .i64 1))), none⟩,
  ⟨(some 67), .ld none (.t 66), none⟩,
  ⟨(some 8), .mv (.t 67), none⟩]
abbrev o_rotaref08_Middle_20 : List IOper := [⟨(some 68), .mv (.t 4), none⟩,
  ⟨(some 69), .mv (.t 4), none⟩,
  ⟨(some 70), .len false (.t 69), none⟩,
  ⟨(some 71), .bin .sub (.t 70) (.k (.c (.int .i64 2))), none⟩,
  ⟨(some 72), .iaS 1 (.t 68) (.t 71), none⟩,
  ⟨(some 73), .ld none (.t 72), none⟩,
  ⟨(some 9), .mv (.t 73), none⟩]
abbrev o_rotaref08_Middle_21 : List IOper := [⟨(some 74), .mv (.t 8), none⟩,
  ⟨(some 75), .mv (.t 9), none⟩,
  ⟨(some 76), .bin .add (.t 74) (.t 75), none⟩,
  ⟨(some 77), .call (.k (.c (.fn fn_rotaref08_Half [] []))) [(.t 76)], none⟩,
  ⟨(some 2), .mv (.t 77), none⟩,
  ⟨(some 3), .mv (.k (.c (.bool true))), none⟩]
def c_rotaref08_Middle : IC := (.seq (.ops o_rotaref08_Middle_0) (.seq (.ops o_rotaref08_Middle_1) (.seq (.seq (.ops o_rotaref08_Middle_2) (.block 0 (.loop b_rotaref08_Middle_13))) (.seq (.seq (.ops o_rotaref08_Middle_14) (.cond (.t 52) (.seq (.ops o_rotaref08_Middle_15) .ret) .skip)) (.seq (.ops o_rotaref08_Middle_16) (.seq (.ops o_rotaref08_Middle_17) (.seq (.seq (.ops o_rotaref08_Middle_18) (.cond (.t 64) (.seq (.ops o_rotaref08_Middle_19) (.ops o_rotaref08_Middle_20)) .skip)) (.seq (.ops o_rotaref08_Middle_21) .ret))))))))
def i_rotaref08_Middle : IFn := ⟨78, c_rotaref08_Middle, [(2, none), (3, none)]⟩

-- F 56 rota/config.within: bads 0, calls []
abbrev o_config_within_0 : List IOper := [⟨(some 6), .mv (.k (.c (.bool false))), none⟩]
abbrev o_config_within_1 : List IOper := [⟨(some 7), .mv (.t 0), none⟩,
  ⟨(some 8), .mv (.t 1), none⟩,
  ⟨(some 9), .bin .geq (.t 7) (.t 8), none⟩,
  ⟨(some 10), .mv (.t 9), none⟩,
  ⟨(some 11), .mv (.t 0), some (10, true)⟩,
  ⟨(some 12), .mv (.t 2), some (10, true)⟩,
  ⟨(some 13), .bin .leq (.t 11) (.t 12), some (10, true)⟩,
  ⟨(some 14), .pick (.t 10) (.t 13) (.k (.c (.bool false))), none⟩,
  ⟨(some 6), .mv (.t 14), none⟩]
def c_config_within : IC := (.seq (.ops o_config_within_0) (.seq (.ops o_config_within_1) .ret))
def i_config_within : IFn := ⟨15, c_config_within, [(6, none)]⟩

-- F 57 slices.Contains[[]int,int]: bads 0, calls [78]
abbrev o_slices_Contains_int_int_0 : List IOper := [⟨(some 4), .mv (.k (.c (.bool false))), none⟩]
abbrev o_slices_Contains_int_int_1 : List IOper := [⟨(some 5), .mv (.t 0), none⟩,
  ⟨(some 6), .mv (.t 1), none⟩,
  ⟨(some 7), .call (.k (.c (.fn fn_slices_Index_int_int [] []))) [(.t 5), (.t 6)], none⟩,
  ⟨(some 8), .bin .geq (.t 7) (.k (.c (.int .i64 0))), none⟩,
  ⟨(some 4), .mv (.t 8), none⟩]
def c_slices_Contains_int_int : IC := (.seq (.ops o_slices_Contains_int_int_0) (.seq (.ops o_slices_Contains_int_int_1) .ret))
def i_slices_Contains_int_int : IFn := ⟨9, c_slices_Contains_int_int, [(4, none)]⟩

-- F 58 rota/config.pairs: bads 0, calls [79]
abbrev o_config_pairs_0 : List IOper := [⟨(some 1), .box 3 (.t 0), none⟩,
  ⟨(some 2), .mv (.k (.c .nilFn)), none⟩]
abbrev o_config_pairs_1 : List IOper := [⟨(some 3), .mkfn fn_config_pairs_1 [] [(.t 1)], none⟩,
  ⟨(some 2), .mv (.t 3), none⟩]
def c_config_pairs : IC := (.seq (.ops o_config_pairs_0) (.seq (.ops o_config_pairs_1) .ret))
def i_config_pairs : IFn := ⟨4, c_config_pairs, [(2, none)]⟩

-- F 59 rota/config.meet: bads 0, calls []
abbrev o_config_meet_0 : List IOper := [⟨(some 8), .mv (.k (.c (.bool false))), none⟩]
abbrev o_config_meet_1 : List IOper := [⟨(some 9), .mv (.t 0), none⟩,
  ⟨(some 10), .mv (.t 2), none⟩,
  ⟨(some 11), .mx (.t 9) [(.t 10)], none⟩,
  ⟨(some 12), .mv (.t 1), none⟩,
  ⟨(some 13), .mv (.t 3), none⟩,
  ⟨(some 14), .mn (.t 12) [(.t 13)], none⟩,
  ⟨(some 15), .bin .lss (.t 11) (.t 14), none⟩,
  ⟨(some 8), .mv (.t 15), none⟩]
def c_config_meet : IC := (.seq (.ops o_config_meet_0) (.seq (.ops o_config_meet_1) .ret))
def i_config_meet : IFn := ⟨16, c_config_meet, [(8, none)]⟩

-- F 60 rota/config.port: bads 0, calls [56]
abbrev o_config_port_0 : List IOper := [⟨(some 2), .box 28 (.t 0), none⟩,
  ⟨(some 4), .new 91 (.agg (List.replicate 6 (.int .i64 0))), none⟩,
  ⟨(some 5), .mv (.k (.c (.bool false))), none⟩]
abbrev o_config_port_1 : List IOper := [⟨(some 6), .mv (.t 1), none⟩,
  ⟨(some 7), .fa 10 (.t 2), none⟩,
  ⟨(some 8), .ld none (.t 7), none⟩,
  ⟨(some 9), .len false (.t 8), none⟩,
  ⟨(some 10), .bin .sub (.t 9) (.k (.c (.int .i64 1))), none⟩,
  ⟨(some 11), .call (.k (.c (.fn fn_config_within [] []))) [(.t 6), (.k (.c (.int .i64 0))), (.t 10)], none⟩,
  ⟨(some 12), .un .not (.t 11), none⟩]
abbrev o_config_port_2 : List IOper := [⟨(some 13), .build (List.replicate 6 (.int .i64 0)) [], none⟩,
  ⟨none, .st 6 (.t 4) (.t 13), none⟩,
  ⟨(some 5), .mv (.k (.c (.bool false))), none⟩]
abbrev o_config_port_3 : List IOper := [⟨(some 14), .fa 10 (.t 2), none⟩,
  ⟨(some 15), .ld none (.t 14), none⟩,
  ⟨(some 16), .mv (.t 1), none⟩,
  ⟨(some 17), .iaS 6 (.t 15) (.t 16), none⟩,
  ⟨(some 18), .ld (some 6) (.t 17), none⟩,
  ⟨none, .st 6 (.t 4) (.t 18), none⟩,
  ⟨(some 5), .mv (.k (.c (.bool true))), none⟩]
def c_config_port : IC := (.seq (.ops o_config_port_0) (.seq (.seq (.ops o_config_port_1) (.cond (.t 12) (.seq (.ops o_config_port_2) .ret) .skip)) (.seq (.ops o_config_port_3) .ret)))
def i_config_port : IFn := ⟨19, c_config_port, [(4, (some (some 6))), (5, none)]⟩

-- F 61 slices.insertionSortOrdered[int]: bads 0, calls [67]
abbrev o_slices_insertionSortOrdered_int_0 : List IOper := [⟨(some 8), .mv (.t 1), none⟩,
  ⟨(some 9), .bin .add (.t 8) (.k (.c (.int .i64 1))), none⟩,
  ⟨(some 6), .mv (.t 9), none⟩]
abbrev o_slices_insertionSortOrdered_int_1 : List IOper := [⟨(some 10), .mv (.t 6), none⟩,
  ⟨(some 11), .mv (.t 2), none⟩,
  ⟨(some 12), .bin .lss (.t 10) (.t 11), none⟩]
abbrev o_slices_insertionSortOrdered_int_2 : List IOper := [⟨(some 15), .mv (.t 6), none⟩,
  ⟨(some 7), .mv (.t 15), none⟩]
abbrev o_slices_insertionSortOrdered_int_3 : List IOper := [⟨(some 16), .mv (.t 7), none⟩,
  ⟨(some 17), .mv (.t 1), none⟩,
  ⟨(some 18), .bin .gtr (.t 16) (.t 17), none⟩,
  ⟨(some 19), .mv (.t 18), none⟩,
  ⟨(some 20), .mv (.t 0), some (19, true)⟩,
  ⟨(some 21), .mv (.t 7), some (19, true)⟩,
  ⟨(some 22), .iaS 1 (.t 20) (.t 21), some (19, true)⟩,
  ⟨(some 23), .ld none (.t 22), some (19, true)⟩,
  ⟨(some 24), .mv (.t 0), some (19, true)⟩,
  ⟨(some 25), .mv (.t 7), some (19, true)⟩,
  ⟨(some 26), .bin .sub (.t 25) (.k (.c (.int .i64 1))), some (19, true)⟩,
  ⟨(some 27), .iaS 1 (.t 24) (.t 26), some (19, true)⟩,
  ⟨(some 28), .ld none (.t 27), some (19, true)⟩,
  ⟨(some 29), .call (.k (.c (.fn fn_cmp_Less_int [] []))) [(.t 23), (.t 28)], some (19, true)⟩,
  ⟨(some 30), .pick (.t 19) (.t 29) (.k (.c (.bool false))), none⟩]
abbrev o_slices_insertionSortOrdered_int_4 : List IOper := [⟨(some 33), .mv (.t 0), none⟩,
  ⟨(some 34), .mv (.t 7), none⟩,
  ⟨(some 35), .mv (.t 0), none⟩,
  ⟨(some 36), .mv (.t 7), none⟩,
  ⟨(some 37), .bin .sub (.t 36) (.k (.c (.int .i64 1))), none⟩,
  ⟨(some 38), .mv (.t 0), none⟩,
  ⟨(some 39), .mv (.t 7), none⟩,
  ⟨(some 40), .bin .sub (.t 39) (.k (.c (.int .i64 1))), none⟩,
  ⟨(some 41), .iaS 1 (.t 38) (.t 40), none⟩,
  ⟨(some 42), .ld none (.t 41), none⟩,
  ⟨(some 43), .mv (.t 0), none⟩,
  ⟨(some 44), .mv (.t 7), none⟩,
  ⟨(some 45), .iaS 1 (.t 43) (.t 44), none⟩,
  ⟨(some 46), .ld none (.t 45), none⟩,
  ⟨(some 47), .iaS 1 (.t 33) (.t 34), none⟩,
  ⟨none, .st 1 (.t 47) (.t 42), none⟩,
  ⟨(some 48), .iaS 1 (.t 35) (.t 37), none⟩,
  ⟨none, .st 1 (.t 48) (.t 46), none⟩]
abbrev o_slices_insertionSortOrdered_int_5 : List IOper := [⟨(some 31), .mv (.t 7), none⟩,
  ⟨(some 32), .bin .sub (.t 31) (.k (.c (.int .i64 1))), none⟩,
  ⟨(some 7), .mv (.t 32), none⟩]
def b_slices_insertionSortOrdered_int_6 : IC := (.seq (.seq (.ops o_slices_insertionSortOrdered_int_3) (.cond (.t 30) .skip (.exit 2))) (.seq (.block 3 (.ops o_slices_insertionSortOrdered_int_4)) (.ops o_slices_insertionSortOrdered_int_5)))
abbrev o_slices_insertionSortOrdered_int_7 : List IOper := [⟨(some 13), .mv (.t 6), none⟩,
  ⟨(some 14), .bin .add (.t 13) (.k (.c (.int .i64 1))), none⟩,
  ⟨(some 6), .mv (.t 14), none⟩]
def b_slices_insertionSortOrdered_int_8 : IC := (.seq (.seq (.ops o_slices_insertionSortOrdered_int_1) (.cond (.t 12) .skip (.exit 0))) (.seq (.block 1 (.seq (.ops o_slices_insertionSortOrdered_int_2) (.block 2 (.loop b_slices_insertionSortOrdered_int_6)))) (.ops o_slices_insertionSortOrdered_int_7)))
def c_slices_insertionSortOrdered_int : IC := (.seq (.ops o_slices_insertionSortOrdered_int_0) (.block 0 (.loop b_slices_insertionSortOrdered_int_8)))
def i_slices_insertionSortOrdered_int : IFn := ⟨49, c_slices_insertionSortOrdered_int, []⟩

-- F 62 slices.heapSortOrdered[int]: bads 0, calls [80, 80]
abbrev o_slices_heapSortOrdered_int_0 : List IOper := [⟨(some 11), .mv (.t 1), none⟩,
  ⟨(some 6), .mv (.t 11), none⟩]
abbrev o_slices_heapSortOrdered_int_1 : List IOper := [⟨(some 7), .mv (.k (.c (.int .i64 0))), none⟩]
abbrev o_slices_heapSortOrdered_int_2 : List IOper := [⟨(some 12), .mv (.t 2), none⟩,
  ⟨(some 13), .mv (.t 1), none⟩,
  ⟨(some 14), .bin .sub (.t 12) (.t 13), none⟩,
  ⟨(some 8), .mv (.t 14), none⟩]
abbrev o_slices_heapSortOrdered_int_3 : List IOper := [⟨(some 15), .mv (.t 8), none⟩,
  ⟨(some 16), .bin .sub (.t 15) (.k (.c (.int .i64 1))), none⟩,
  ⟨(some 17), .bin .quo (.t 16) (.k (.c (.int .i64 2))), none⟩,
  ⟨(some 9), .mv (.t 17), none⟩]
abbrev o_slices_heapSortOrdered_int_4 : List IOper := [⟨(some 18), .mv (.t 9), none⟩,
  ⟨(some 19), .bin .geq (.t 18) (.k (.c (.int .i64 0))), none⟩]
abbrev o_slices_heapSortOrdered_int_5 : List IOper := [⟨(some 22), .mv (.t 0), none⟩,
  ⟨(some 23), .mv (.t 9), none⟩,
  ⟨(some 24), .mv (.t 8), none⟩,
  ⟨(some 25), .mv (.t 6), none⟩,
  ⟨(some 26), .call (.k (.c (.fn fn_slices_siftDownOrdered_int [] []))) [(.t 22), (.t 23), (.t 24), (.t 25)], none⟩]
abbrev o_slices_heapSortOrdered_int_6 : List IOper := [⟨(some 20), .mv (.t 9), none⟩,
  ⟨(some 21), .bin .sub (.t 20) (.k (.c (.int .i64 1))), none⟩,
  ⟨(some 9), .mv (.t 21), none⟩]
def b_slices_heapSortOrdered_int_7 : IC := (.seq (.seq (.ops o_slices_heapSortOrdered_int_4) (.cond (.t 19) .skip (.exit 0))) (.seq (.block 1 (.ops o_slices_heapSortOrdered_int_5)) (.ops o_slices_heapSortOrdered_int_6)))
abbrev o_slices_heapSortOrdered_int_8 : List IOper := [⟨(some 27), .mv (.t 8), none⟩,
  ⟨(some 28), .bin .sub (.t 27) (.k (.c (.int .i64 1))), none⟩,
  ⟨(some 10), .mv (.t 28), none⟩]
abbrev o_slices_heapSortOrdered_int_9 : List IOper := [⟨(some 29), .mv (.t 10), none⟩,
  ⟨(some 30), .bin .geq (.t 29) (.k (.c (.int .i64 0))), none⟩]
abbrev o_slices_heapSortOrdered_int_10 : List IOper := [⟨(some 33), .mv (.t 0), none⟩,
  ⟨(some 34), .mv (.t 6), none⟩,
  ⟨(some 35), .mv (.t 0), none⟩,
  ⟨(some 36), .mv (.t 6), none⟩,
  ⟨(some 37), .mv (.t 10), none⟩,
  ⟨(some 38), .bin .add (.t 36) (.t 37), none⟩,
  ⟨(some 39), .mv (.t 0), none⟩,
  ⟨(some 40), .mv (.t 6), none⟩,
  ⟨(some 41), .mv (.t 10), none⟩,
  ⟨(some 42), .bin .add (.t 40) (.t 41), none⟩,
  ⟨(some 43), .iaS 1 (.t 39) (.t 42), none⟩,
  ⟨(some 44), .ld none (.t 43), none⟩,
  ⟨(some 45), .mv (.t 0), none⟩,
  ⟨(some 46), .mv (.t 6), none⟩,
  ⟨(some 47), .iaS 1 (.t 45) (.t 46), none⟩,
  ⟨(some 48), .ld none (.t 47), none⟩,
  ⟨(some 49), .iaS 1 (.t 33) (.t 34), none⟩,
  ⟨none, .st 1 (.t 49) (.t 44), none⟩,
  ⟨(some 50), .iaS 1 (.t 35) (.t 38), none⟩,
  ⟨none, .st 1 (.t 50) (.t 48), none⟩]
abbrev o_slices_heapSortOrdered_int_11 : List IOper := [⟨(some 51), .mv (.t 0), none⟩,
  ⟨(some 52), .mv (.t 7), none⟩,
  ⟨(some 53), .mv (.t 10), none⟩,
  ⟨(some 54), .mv (.t 6), none⟩,
  ⟨(some 55), .call (.k (.c (.fn fn_slices_siftDownOrdered_int [] []))) [(.t 51), (.t 52), (.t 53), (.t 54)], none⟩]
abbrev o_slices_heapSortOrdered_int_12 : List IOper := [⟨(some 31), .mv (.t 10), none⟩,
  ⟨(some 32), .bin .sub (.t 31) (.k (.c (.int .i64 1))), none⟩,
  ⟨(some 10), .mv (.t 32), none⟩]
def b_slices_heapSortOrdered_int_13 : IC := (.seq (.seq (.ops o_slices_heapSortOrdered_int_9) (.cond (.t 30) .skip (.exit 2))) (.seq (.block 3 (.seq (.ops o_slices_heapSortOrdered_int_10) (.ops o_slices_heapSortOrdered_int_11))) (.ops o_slices_heapSortOrdered_int_12)))
def c_slices_heapSortOrdered_int : IC := (.seq (.ops o_slices_heapSortOrdered_int_0) (.seq (.ops o_slices_heapSortOrdered_int_1) (.seq (.ops o_slices_heapSortOrdered_int_2) (.seq (.seq (.ops o_slices_heapSortOrdered_int_3) (.block 0 (.loop b_slices_heapSortOrdered_int_7))) (.seq (.ops o_slices_heapSortOrdered_int_8) (.block 2 (.loop b_slices_heapSortOrdered_int_13)))))))
def i_slices_heapSortOrdered_int : IFn := ⟨56, c_slices_heapSortOrdered_int, []⟩

-- F 63 slices.breakPatternsOrdered[int]: bads 0, calls [81, 82]
abbrev o_slices_breakPatternsOrdered_int_0 : List IOper := [⟨(some 11), .mv (.t 2), none⟩,
  ⟨(some 12), .mv (.t 1), none⟩,
  ⟨(some 13), .bin .sub (.t 11) (.t 12), none⟩,
  ⟨(some 6), .mv (.t 13), none⟩]
abbrev o_slices_breakPatternsOrdered_int_1 : List IOper := [⟨(some 14), .mv (.t 6), none⟩,
  ⟨(some 15), .bin .geq (.t 14) (.k (.c (.int .i64 8))), none⟩]
abbrev o_slices_breakPatternsOrdered_int_2 : List IOper := [⟨(some 16), .mv (.t 6), none⟩,
  ⟨(some 17), .cv .u64 (.t 16), none⟩,
  ⟨(some 7), .new 111 (.c (.int .u64 0)), none⟩,
  ⟨none, .st 1 (.t 7) (.t 17), none⟩]
abbrev o_slices_breakPatternsOrdered_int_3 : List IOper := [⟨(some 18), .mv (.t 6), none⟩,
  ⟨(some 19), .call (.k (.c (.fn fn_slices_nextPowerOfTwo [] []))) [(.t 18)], none⟩,
  ⟨(some 8), .mv (.t 19), none⟩]
abbrev o_slices_breakPatternsOrdered_int_4 : List IOper := [⟨(some 20), .mv (.t 1), none⟩,
  ⟨(some 21), .mv (.t 6), none⟩,
  ⟨(some 22), .bin .quo (.t 21) (.k (.c (.int .i64 4))), none⟩,
  ⟨(some 23), .bin .mul (.t 22) (.k (.c (.int .i64 2))), none⟩,
  ⟨(some 24), .bin .add (.t 20) (.t 23), none⟩,
  ⟨(some 25), .bin .sub (.t 24) (.k (.c (.int .i64 1))), none⟩,
  ⟨(some 9), .mv (.t 25), none⟩]
abbrev o_slices_breakPatternsOrdered_int_5 : List IOper := [⟨(some 26), .mv (.t 9), none⟩,
  ⟨(some 27), .mv (.t 1), none⟩,
  ⟨(some 28), .mv (.t 6), none⟩,
  ⟨(some 29), .bin .quo (.t 28) (.k (.c (.int .i64 4))), none⟩,
  ⟨(some 30), .bin .mul (.t 29) (.k (.c (.int .i64 2))), none⟩,
  ⟨(some 31), .bin .add (.t 27) (.t 30), none⟩,
  ⟨(some 32), .bin .add (.t 31) (.k (.c (.int .i64 1))), none⟩,
  ⟨(some 33), .bin .leq (.t 26) (.t 32), none⟩]
abbrev o_slices_breakPatternsOrdered_int_6 : List IOper := [⟨(some 36), .call (.k (.c (.fn fn_slices_xorshift_Next [] []))) [(.t 7)], none⟩,
  ⟨(some 37), .mv (.t 8), none⟩,
  ⟨(some 38), .bin .sub (.t 37) (.k (.c (.int .u64 1))), none⟩,
  ⟨(some 39), .bin .and (.t 36) (.t 38), none⟩,
  ⟨(some 40), .cv .i64 (.t 39), none⟩,
  ⟨(some 10), .mv (.t 40), none⟩]
abbrev o_slices_breakPatternsOrdered_int_7 : List IOper := [⟨(some 41), .mv (.t 10), none⟩,
  ⟨(some 42), .mv (.t 6), none⟩,
  ⟨(some 43), .bin .geq (.t 41) (.t 42), none⟩]
abbrev o_slices_breakPatternsOrdered_int_8 : List IOper := [⟨(some 44), .mv (.t 10), none⟩,
  ⟨(some 45), .mv (.t 6), none⟩,
  ⟨(some 46), .bin .sub (.t 44) (.t 45), none⟩,
  ⟨(some 10), .mv (.t 46), none⟩]
abbrev o_slices_breakPatternsOrdered_int_9 : List IOper := [⟨(some 47), .mv (.t 0), none⟩,
  ⟨(some 48), .mv (.t 9), none⟩,
  ⟨(some 49), .mv (.t 0), none⟩,
  ⟨(some 50), .mv (.t 1), none⟩,
  ⟨(some 51), .mv (.t 10), none⟩,
  ⟨(some 52), .bin .add (.t 50) (.t 51), none⟩,
  ⟨(some 53), .mv (.t 0), none⟩,
  ⟨(some 54), .mv (.t 1), none⟩,
  ⟨(some 55), .mv (.t 10), none⟩,
  ⟨(some 56), .bin .add (.t 54) (.t 55), none⟩,
  ⟨(some 57), .iaS 1 (.t 53) (.t 56), none⟩,
  ⟨(some 58), .ld none (.t 57), none⟩,
  ⟨(some 59), .mv (.t 0), none⟩,
  ⟨(some 60), .mv (.t 9), none⟩,
  ⟨(some 61), .iaS 1 (.t 59) (.t 60), none⟩,
  ⟨(some 62), .ld none (.t 61), none⟩,
  ⟨(some 63), .iaS 1 (.t 47) (.t 48), none⟩,
  ⟨none, .st 1 (.t 63) (.t 58), none⟩,
  ⟨(some 64), .iaS 1 (.t 49) (.t 52), none⟩,
  ⟨none, .st 1 (.t 64) (.t 62), none⟩]
abbrev o_slices_breakPatternsOrdered_int_10 : List IOper := [⟨(some 34), .mv (.t 9), none⟩,
  ⟨(some 35), .bin .add (.t 34) (.k (.c (.int .i64 1))), none⟩,
  ⟨(some 9), .mv (.t 35), none⟩]
def b_slices_breakPatternsOrdered_int_11 : IC := (.seq (.seq (.ops o_slices_breakPatternsOrdered_int_5) (.cond (.t 33) .skip (.exit 0))) (.seq (.block 1 (.seq (.ops o_slices_breakPatternsOrdered_int_6) (.seq (.seq (.ops o_slices_breakPatternsOrdered_int_7) (.cond (.t 43) (.ops o_slices_breakPatternsOrdered_int_8) .skip)) (.ops o_slices_breakPatternsOrdered_int_9)))) (.ops o_slices_breakPatternsOrdered_int_10)))
def c_slices_breakPatternsOrdered_int : IC := (.seq (.ops o_slices_breakPatternsOrdered_int_0) (.seq (.ops o_slices_breakPatternsOrdered_int_1) (.cond (.t 15) (.seq (.ops o_slices_breakPatternsOrdered_int_2) (.seq (.ops o_slices_breakPatternsOrdered_int_3) (.seq (.ops o_slices_breakPatternsOrdered_int_4) (.block 0 (.loop b_slices_breakPatternsOrdered_int_11))))) .skip)))
def i_slices_breakPatternsOrdered_int : IFn := ⟨65, c_slices_breakPatternsOrdered_int, []⟩

-- F 64 slices.choosePivotOrdered[int]: bads 0, calls [83, 83, 83, 84]
abbrev o_slices_choosePivotOrdered_int_0 : List IOper := [⟨(some 6), .mv (.k (.c (.int .i64 0))), none⟩,
  ⟨(some 7), .mv (.k (.c (.int .i64 0))), none⟩]
abbrev o_slices_choosePivotOrdered_int_1 : List IOper := [⟨(some 13), .mv (.t 2), none⟩,
  ⟨(some 14), .mv (.t 1), none⟩,
  ⟨(some 15), .bin .sub (.t 13) (.t 14), none⟩,
  ⟨(some 8), .mv (.t 15), none⟩]
abbrev o_slices_choosePivotOrdered_int_2 : List IOper := [⟨(some 9), .new 3 (.c (.int .i64 0)), none⟩]
abbrev o_slices_choosePivotOrdered_int_3 : List IOper := [⟨(some 16), .mv (.t 1), none⟩,
  ⟨(some 17), .mv (.t 8), none⟩,
  ⟨(some 18), .bin .quo (.t 17) (.k (.c (.int .i64 4))), none⟩,
  ⟨(some 19), .bin .mul (.t 18) (.k (.c (.int .i64 1))), none⟩,
  ⟨(some 20), .bin .add (.t 16) (.t 19), none⟩,
  ⟨(some 10), .mv (.t 20), none⟩]
abbrev o_slices_choosePivotOrdered_int_4 : List IOper := [⟨(some 21), .mv (.t 1), none⟩,
  ⟨(some 22), .mv (.t 8), none⟩,
  ⟨(some 23), .bin .quo (.t 22) (.k (.c (.int .i64 4))), none⟩,
  ⟨(some 24), .bin .mul (.t 23) (.k (.c (.int .i64 2))), none⟩,
  ⟨(some 25), .bin .add (.t 21) (.t 24), none⟩,
  ⟨(some 11), .mv (.t 25), none⟩]
abbrev o_slices_choosePivotOrdered_int_5 : List IOper := [⟨(some 26), .mv (.t 1), none⟩,
  ⟨(some 27), .mv (.t 8), none⟩,
  ⟨(some 28), .bin .quo (.t 27) (.k (.c (.int .i64 4))), none⟩,
  ⟨(some 29), .bin .mul (.t 28) (.k (.c (.int .i64 3))), none⟩,
  ⟨(some 30), .bin .add (.t 26) (.t 29), none⟩,
  ⟨(some 12), .mv (.t 30), none⟩]
abbrev o_slices_choosePivotOrdered_int_6 : List IOper := [⟨(some 31), .mv (.t 8), none⟩,
  ⟨(some 32), .bin .geq (.t 31) (.k (.c (.int .i64 8))), none⟩]
abbrev o_slices_choosePivotOrdered_int_7 : List IOper := [⟨(some 33), .mv (.t 8), none⟩,
  ⟨(some 34), .bin .geq (.t 33) (.k (.c (.int .i64 50))), none⟩]
abbrev o_slices_choosePivotOrdered_int_8 : List IOper := [⟨(some 35), .mv (.t 0), none⟩,
  ⟨(some 36), .mv (.t 10), none⟩,
  ⟨(some 37), .call (.k (.c (.fn fn_slices_medianAdjacentOrdered_int [] []))) [(.t 35), (.t 36), (.t 9)], none⟩,
  ⟨(some 10), .mv (.t 37), none⟩]
abbrev o_slices_choosePivotOrdered_int_9 : List IOper := [⟨(some 38), .mv (.t 0), none⟩,
  ⟨(some 39), .mv (.t 11), none⟩,
  ⟨(some 40), .call (.k (.c (.fn fn_slices_medianAdjacentOrdered_int [] []))) [(.t 38), (.t 39), (.t 9)], none⟩,
  ⟨(some 11), .mv (.t 40), none⟩]
abbrev o_slices_choosePivotOrdered_int_10 : List IOper := [⟨(some 41), .mv (.t 0), none⟩,
  ⟨(some 42), .mv (.t 12), none⟩,
  ⟨(some 43), .call (.k (.c (.fn fn_slices_medianAdjacentOrdered_int [] []))) [(.t 41), (.t 42), (.t 9)], none⟩,
  ⟨(some 12), .mv (.t 43), none⟩]
abbrev o_slices_choosePivotOrdered_int_11 : List IOper := [⟨(some 44), .mv (.t 0), none⟩,
  ⟨(some 45), .mv (.t 10), none⟩,
  ⟨(some 46), .mv (.t 11), none⟩,
  ⟨(some 47), .mv (.t 12), none⟩,
  ⟨(some 48), .call (.k (.c (.fn fn_slices_medianOrdered_int [] []))) [(.t 44), (.t 45), (.t 46), (.t 47), (.t 9)], none⟩,
  ⟨(some 11), .mv (.t 48), none⟩]
abbrev o_slices_choosePivotOrdered_int_12 : List IOper := [⟨(some 49), .ld none (.t 9), none⟩]
abbrev o_slices_choosePivotOrdered_int_13 : List IOper := [⟨(some 52), .bin .eql (.t 49) (.k (.c (.int .i64 0))), none⟩,
  ⟨(some 51), .mv (.t 52), none⟩]
abbrev o_slices_choosePivotOrdered_int_14 : List IOper := [⟨(some 53), .mv (.t 11), none⟩,
  ⟨(some 6), .mv (.t 53), none⟩,
  ⟨(some 7), .mv (.k (.c (.int .i64 1))), none⟩]
abbrev o_slices_choosePivotOrdered_int_15 : List IOper := [⟨(some 55), .bin .eql (.t 49) (.k (.c (.int .i64 12))), none⟩,
  ⟨(some 54), .mv (.t 55), none⟩]
abbrev o_slices_choosePivotOrdered_int_16 : List IOper := [⟨(some 56), .mv (.t 11), none⟩,
  ⟨(some 6), .mv (.t 56), none⟩,
  ⟨(some 7), .mv (.k (.c (.int .i64 2))), none⟩]
abbrev o_slices_choosePivotOrdered_int_17 : List IOper := [⟨(some 50), .mv (.t 11), none⟩,
  ⟨(some 6), .mv (.t 50), none⟩,
  ⟨(some 7), .mv (.k (.c (.int .i64 0))), none⟩]
def c_slices_choosePivotOrdered_int : IC := (.seq (.ops o_slices_choosePivotOrdered_int_0) (.seq (.ops o_slices_choosePivotOrdered_int_1) (.seq (.ops o_slices_choosePivotOrdered_int_2) (.seq (.ops o_slices_choosePivotOrdered_int_3) (.seq (.ops o_slices_choosePivotOrdered_int_4) (.seq (.ops o_slices_choosePivotOrdered_int_5) (.seq (.seq (.ops o_slices_choosePivotOrdered_int_6) (.cond (.t 32) (.seq (.seq (.ops o_slices_choosePivotOrdered_int_7) (.cond (.t 34) (.seq (.ops o_slices_choosePivotOrdered_int_8) (.seq (.ops o_slices_choosePivotOrdered_int_9) (.ops o_slices_choosePivotOrdered_int_10))) .skip)) (.ops o_slices_choosePivotOrdered_int_11)) .skip)) (.seq (.ops o_slices_choosePivotOrdered_int_12) (.block 0 (.seq (.ops o_slices_choosePivotOrdered_int_13) (.cond (.t 51) (.seq (.ops o_slices_choosePivotOrdered_int_14) .ret) (.seq (.ops o_slices_choosePivotOrdered_int_15) (.cond (.t 54) (.seq (.ops o_slices_choosePivotOrdered_int_16) .ret) (.seq (.ops o_slices_choosePivotOrdered_int_17) .ret))))))))))))))
def i_slices_choosePivotOrdered_int : IFn := ⟨57, c_slices_choosePivotOrdered_int, [(6, none), (7, none)]⟩

-- F 65 slices.reverseRangeOrdered[int]: bads 0, calls []
abbrev o_slices_reverseRangeOrdered_int_0 : List IOper := [⟨(some 8), .mv (.t 1), none⟩,
  ⟨(some 6), .mv (.t 8), none⟩]
abbrev o_slices_reverseRangeOrdered_int_1 : List IOper := [⟨(some 9), .mv (.t 2), none⟩,
  ⟨(some 10), .bin .sub (.t 9) (.k (.c (.int .i64 1))), none⟩,
  ⟨(some 7), .mv (.t 10), none⟩]
abbrev o_slices_reverseRangeOrdered_int_2 : List IOper := [⟨(some 11), .mv (.t 6), none⟩,
  ⟨(some 12), .mv (.t 7), none⟩,
  ⟨(some 13), .bin .lss (.t 11) (.t 12), none⟩]
abbrev o_slices_reverseRangeOrdered_int_3 : List IOper := [⟨(some 14), .mv (.t 0), none⟩,
  ⟨(some 15), .mv (.t 6), none⟩,
  ⟨(some 16), .mv (.t 0), none⟩,
  ⟨(some 17), .mv (.t 7), none⟩,
  ⟨(some 18), .mv (.t 0), none⟩,
  ⟨(some 19), .mv (.t 7), none⟩,
  ⟨(some 20), .iaS 1 (.t 18) (.t 19), none⟩,
  ⟨(some 21), .ld none (.t 20), none⟩,
  ⟨(some 22), .mv (.t 0), none⟩,
  ⟨(some 23), .mv (.t 6), none⟩,
  ⟨(some 24), .iaS 1 (.t 22) (.t 23), none⟩,
  ⟨(some 25), .ld none (.t 24), none⟩,
  ⟨(some 26), .iaS 1 (.t 14) (.t 15), none⟩,
  ⟨none, .st 1 (.t 26) (.t 21), none⟩,
  ⟨(some 27), .iaS 1 (.t 16) (.t 17), none⟩,
  ⟨none, .st 1 (.t 27) (.t 25), none⟩]
abbrev o_slices_reverseRangeOrdered_int_4 : List IOper := [⟨(some 28), .mv (.t 6), none⟩,
  ⟨(some 29), .bin .add (.t 28) (.k (.c (.int .i64 1))), none⟩,
  ⟨(some 6), .mv (.t 29), none⟩]
abbrev o_slices_reverseRangeOrdered_int_5 : List IOper := [⟨(some 30), .mv (.t 7), none⟩,
  ⟨(some 31), .bin .sub (.t 30) (.k (.c (.int .i64 1))), none⟩,
  ⟨(some 7), .mv (.t 31), none⟩]
def b_slices_reverseRangeOrdered_int_6 : IC := (.seq (.seq (.ops o_slices_reverseRangeOrdered_int_2) (.cond (.t 13) .skip (.exit 0))) (.block 1 (.seq (.ops o_slices_reverseRangeOrdered_int_3) (.seq (.ops o_slices_reverseRangeOrdered_int_4) (.ops o_slices_reverseRangeOrdered_int_5)))))
def c_slices_reverseRangeOrdered_int : IC := (.seq (.ops o_slices_reverseRangeOrdered_int_0) (.seq (.ops o_slices_reverseRangeOrdered_int_1) (.block 0 (.loop b_slices_reverseRangeOrdered_int_6))))
def i_slices_reverseRangeOrdered_int : IFn := ⟨32, c_slices_reverseRangeOrdered_int, []⟩

-- F 66 slices.partialInsertionSortOrdered[int]: bads 0, calls [67, 67, 67]
abbrev o_slices_partialInsertionSortOrdered_int_0 : List IOper := [⟨(some 6), .mv (.k (.c (.bool false))), none⟩]
abbrev o_slices_partialInsertionSortOrdered_int_1 : List IOper := [⟨(some 11), .mv (.t 1), none⟩,
  ⟨(some 12), .bin .add (.t 11) (.k (.c (.int .i64 1))), none⟩,
  ⟨(some 7), .mv (.t 12), none⟩]
abbrev o_slices_partialInsertionSortOrdered_int_2 : List IOper := [⟨(some 8), .mv (.k (.c (.int .i64 0))), none⟩]
abbrev o_slices_partialInsertionSortOrdered_int_3 : List IOper := [⟨(some 13), .mv (.t 8), none⟩,
  ⟨(some 14), .bin .lss (.t 13) (.k (.c (.int .i64 5))), none⟩]
abbrev o_slices_partialInsertionSortOrdered_int_4 : List IOper := [⟨(some 17), .mv (.t 7), none⟩,
  ⟨(some 18), .mv (.t 2), none⟩,
  ⟨(some 19), .bin .lss (.t 17) (.t 18), none⟩,
  ⟨(some 20), .mv (.t 19), none⟩,
  ⟨(some 21), .mv (.t 0), some (20, true)⟩,
  ⟨(some 22), .mv (.t 7), some (20, true)⟩,
  ⟨(some 23), .iaS 1 (.t 21) (.t 22), some (20, true)⟩,
  ⟨(some 24), .ld none (.t 23), some (20, true)⟩,
  ⟨(some 25), .mv (.t 0), some (20, true)⟩,
  ⟨(some 26), .mv (.t 7), some (20, true)⟩,
  ⟨(some 27), .bin .sub (.t 26) (.k (.c (.int .i64 1))), some (20, true)⟩,
  ⟨(some 28), .iaS 1 (.t 25) (.t 27), some (20, true)⟩,
  ⟨(some 29), .ld none (.t 28), some (20, true)⟩,
  ⟨(some 30), .call (.k (.c (.fn fn_cmp_Less_int [] []))) [(.t 24), (.t 29)], some (20, true)⟩,
  ⟨(some 31), .un .not (.t 30), some (20, true)⟩,
  ⟨(some 32), .pick (.t 20) (.t 31) (.k (.c (.bool false))), none⟩]
abbrev o_slices_partialInsertionSortOrdered_int_5 : List IOper := [⟨(some 33), .mv (.t 7), none⟩,
  ⟨(some 34), .bin .add (.t 33) (.k (.c (.int .i64 1))), none⟩,
  ⟨(some 7), .mv (.t 34), none⟩]
def b_slices_partialInsertionSortOrdered_int_6 : IC := (.seq (.seq (.ops o_slices_partialInsertionSortOrdered_int_4) (.cond (.t 32) .skip (.exit 2))) (.block 3 (.ops o_slices_partialInsertionSortOrdered_int_5)))
abbrev o_slices_partialInsertionSortOrdered_int_7 : List IOper := [⟨(some 35), .mv (.t 7), none⟩,
  ⟨(some 36), .mv (.t 2), none⟩,
  ⟨(some 37), .bin .eql (.t 35) (.t 36), none⟩]
abbrev o_slices_partialInsertionSortOrdered_int_8 : List IOper := [⟨(some 6), .mv (.k (.c (.bool true))), none⟩]
abbrev o_slices_partialInsertionSortOrdered_int_9 : List IOper := [⟨(some 38), .mv (.t 2), none⟩,
  ⟨(some 39), .mv (.t 1), none⟩,
  ⟨(some 40), .bin .sub (.t 38) (.t 39), none⟩,
  ⟨(some 41), .bin .lss (.t 40) (.k (.c (.int .i64 50))), none⟩]
abbrev o_slices_partialInsertionSortOrdered_int_10 : List IOper := [⟨(some 6), .mv (.k (.c (.bool false))), none⟩]
abbrev o_slices_partialInsertionSortOrdered_int_11 : List IOper := [⟨(some 42), .mv (.t 0), none⟩,
  ⟨(some 43), .mv (.t 7), none⟩,
  ⟨(some 44), .mv (.t 0), none⟩,
  ⟨(some 45), .mv (.t 7), none⟩,
  ⟨(some 46), .bin .sub (.t 45) (.k (.c (.int .i64 1))), none⟩,
  ⟨(some 47), .mv (.t 0), none⟩,
  ⟨(some 48), .mv (.t 7), none⟩,
  ⟨(some 49), .bin .sub (.t 48) (.k (.c (.int .i64 1))), none⟩,
  ⟨(some 50), .iaS 1 (.t 47) (.t 49), none⟩,
  ⟨(some 51), .ld none (.t 50), none⟩,
  ⟨(some 52), .mv (.t 0), none⟩,
  ⟨(some 53), .mv (.t 7), none⟩,
  ⟨(some 54), .iaS 1 (.t 52) (.t 53), none⟩,
  ⟨(some 55), .ld none (.t 54), none⟩,
  ⟨(some 56), .iaS 1 (.t 42) (.t 43), none⟩,
  ⟨none, .st 1 (.t 56) (.t 51), none⟩,
  ⟨(some 57), .iaS 1 (.t 44) (.t 46), none⟩,
  ⟨none, .st 1 (.t 57) (.t 55), none⟩]
abbrev o_slices_partialInsertionSortOrdered_int_12 : List IOper := [⟨(some 58), .mv (.t 7), none⟩,
  ⟨(some 59), .mv (.t 1), none⟩,
  ⟨(some 60), .bin .sub (.t 58) (.t 59), none⟩,
  ⟨(some 61), .bin .geq (.t 60) (.k (.c (.int .i64 2))), none⟩]
abbrev o_slices_partialInsertionSortOrdered_int_13 : List IOper := [⟨(some 62), .mv (.t 7), none⟩,
  ⟨(some 63), .bin .sub (.t 62) (.k (.c (.int .i64 1))), none⟩,
  ⟨(some 9), .mv (.t 63), none⟩]
abbrev o_slices_partialInsertionSortOrdered_int_14 : List IOper := [⟨(some 64), .mv (.t 9), none⟩,
  ⟨(some 65), .bin .geq (.t 64) (.k (.c (.int .i64 1))), none⟩]
abbrev o_slices_partialInsertionSortOrdered_int_15 : List IOper := [⟨(some 68), .mv (.t 0), none⟩,
  ⟨(some 69), .mv (.t 9), none⟩,
  ⟨(some 70), .iaS 1 (.t 68) (.t 69), none⟩,
  ⟨(some 71), .ld none (.t 70), none⟩,
  ⟨(some 72), .mv (.t 0), none⟩,
  ⟨(some 73), .mv (.t 9), none⟩,
  ⟨(some 74), .bin .sub (.t 73) (.k (.c (.int .i64 1))), none⟩,
  ⟨(some 75), .iaS 1 (.t 72) (.t 74), none⟩,
  ⟨(some 76), .ld none (.t 75), none⟩,
  ⟨(some 77), .call (.k (.c (.fn fn_cmp_Less_int [] []))) [(.t 71), (.t 76)], none⟩,
  ⟨(some 78), .un .not (.t 77), none⟩]
abbrev o_slices_partialInsertionSortOrdered_int_16 : List IOper := [⟨(some 79), .mv (.t 0), none⟩,
  ⟨(some 80), .mv (.t 9), none⟩,
  ⟨(some 81), .mv (.t 0), none⟩,
  ⟨(some 82), .mv (.t 9), none⟩,
  ⟨(some 83), .bin .sub (.t 82) (.k (.c (.int .i64 1))), none⟩,
  ⟨(some 84), .mv (.t 0), none⟩,
  ⟨(some 85), .mv (.t 9), none⟩,
  ⟨(some 86), .bin .sub (.t 85) (.k (.c (.int .i64 1))), none⟩,
  ⟨(some 87), .iaS 1 (.t 84) (.t 86), none⟩,
  ⟨(some 88), .ld none (.t 87), none⟩,
  ⟨(some 89), .mv (.t 0), none⟩,
  ⟨(some 90), .mv (.t 9), none⟩,
  ⟨(some 91), .iaS 1 (.t 89) (.t 90), none⟩,
  ⟨(some 92), .ld none (.t 91), none⟩,
  ⟨(some 93), .iaS 1 (.t 79) (.t 80), none⟩,
  ⟨none, .st 1 (.t 93) (.t 88), none⟩,
  ⟨(some 94), .iaS 1 (.t 81) (.t 83), none⟩,
  ⟨none, .st 1 (.t 94) (.t 92), none⟩]
abbrev o_slices_partialInsertionSortOrdered_int_17 : List IOper := [⟨(some 66), .mv (.t 9), none⟩,
  ⟨(some 67), .bin .sub (.t 66) (.k (.c (.int .i64 1))), none⟩,
  ⟨(some 9), .mv (.t 67), none⟩]
def b_slices_partialInsertionSortOrdered_int_18 : IC := (.seq (.seq (.ops o_slices_partialInsertionSortOrdered_int_14) (.cond (.t 65) .skip (.exit 4))) (.seq (.block 5 (.seq (.seq (.ops o_slices_partialInsertionSortOrdered_int_15) (.cond (.t 78) (.exit 4) .skip)) (.ops o_slices_partialInsertionSortOrdered_int_16))) (.ops o_slices_partialInsertionSortOrdered_int_17)))
abbrev o_slices_partialInsertionSortOrdered_int_19 : List IOper := [⟨(some 95), .mv (.t 2), none⟩,
  ⟨(some 96), .mv (.t 7), none⟩,
  ⟨(some 97), .bin .sub (.t 95) (.t 96), none⟩,
  ⟨(some 98), .bin .geq (.t 97) (.k (.c (.int .i64 2))), none⟩]
abbrev o_slices_partialInsertionSortOrdered_int_20 : List IOper := [⟨(some 99), .mv (.t 7), none⟩,
  ⟨(some 100), .bin .add (.t 99) (.k (.c (.int .i64 1))), none⟩,
  ⟨(some 10), .mv (.t 100), none⟩]
abbrev o_slices_partialInsertionSortOrdered_int_21 : List IOper := [⟨(some 101), .mv (.t 10), none⟩,
  ⟨(some 102), .mv (.t 2), none⟩,
  ⟨(some 103), .bin .lss (.t 101) (.t 102), none⟩]
abbrev o_slices_partialInsertionSortOrdered_int_22 : List IOper := [⟨(some 106), .mv (.t 0), none⟩,
  ⟨(some 107), .mv (.t 10), none⟩,
  ⟨(some 108), .iaS 1 (.t 106) (.t 107), none⟩,
  ⟨(some 109), .ld none (.t 108), none⟩,
  ⟨(some 110), .mv (.t 0), none⟩,
  ⟨(some 111), .mv (.t 10), none⟩,
  ⟨(some 112), .bin .sub (.t 111) (.k (.c (.int .i64 1))), none⟩,
  ⟨(some 113), .iaS 1 (.t 110) (.t 112), none⟩,
  ⟨(some 114), .ld none (.t 113), none⟩,
  ⟨(some 115), .call (.k (.c (.fn fn_cmp_Less_int [] []))) [(.t 109), (.t 114)], none⟩,
  ⟨(some 116), .un .not (.t 115), none⟩]
abbrev o_slices_partialInsertionSortOrdered_int_23 : List IOper := [⟨(some 117), .mv (.t 0), none⟩,
  ⟨(some 118), .mv (.t 10), none⟩,
  ⟨(some 119), .mv (.t 0), none⟩,
  ⟨(some 120), .mv (.t 10), none⟩,
  ⟨(some 121), .bin .sub (.t 120) (.k (.c (.int .i64 1))), none⟩,
  ⟨(some 122), .mv (.t 0), none⟩,
  ⟨(some 123), .mv (.t 10), none⟩,
  ⟨(some 124), .bin .sub (.t 123) (.k (.c (.int .i64 1))), none⟩,
  ⟨(some 125), .iaS 1 (.t 122) (.t 124), none⟩,
  ⟨(some 126), .ld none (.t 125), none⟩,
  ⟨(some 127), .mv (.t 0), none⟩,
  ⟨(some 128), .mv (.t 10), none⟩,
  ⟨(some 129), .iaS 1 (.t 127) (.t 128), none⟩,
  ⟨(some 130), .ld none (.t 129), none⟩,
  ⟨(some 131), .iaS 1 (.t 117) (.t 118), none⟩,
  ⟨none, .st 1 (.t 131) (.t 126), none⟩,
  ⟨(some 132), .iaS 1 (.t 119) (.t 121), none⟩,
  ⟨none, .st 1 (.t 132) (.t 130), none⟩]
abbrev o_slices_partialInsertionSortOrdered_int_24 : List IOper := [⟨(some 104), .mv (.t 10), none⟩,
  ⟨(some 105), .bin .add (.t 104) (.k (.c (.int .i64 1))), none⟩,
  ⟨(some 10), .mv (.t 105), none⟩]
def b_slices_partialInsertionSortOrdered_int_25 : IC := (.seq (.seq (.ops o_slices_partialInsertionSortOrdered_int_21) (.cond (.t 103) .skip (.exit 6))) (.seq (.block 7 (.seq (.seq (.ops o_slices_partialInsertionSortOrdered_int_22) (.cond (.t 116) (.exit 6) .skip)) (.ops o_slices_partialInsertionSortOrdered_int_23))) (.ops o_slices_partialInsertionSortOrdered_int_24)))
abbrev o_slices_partialInsertionSortOrdered_int_26 : List IOper := [⟨(some 15), .mv (.t 8), none⟩,
  ⟨(some 16), .bin .add (.t 15) (.k (.c (.int .i64 1))), none⟩,
  ⟨(some 8), .mv (.t 16), none⟩]
def b_slices_partialInsertionSortOrdered_int_27 : IC := (.seq (.seq (.ops o_slices_partialInsertionSortOrdered_int_3) (.cond (.t 14) .skip (.exit 0))) (.seq (.block 1 (.seq (.block 2 (.loop b_slices_partialInsertionSortOrdered_int_6)) (.seq (.seq (.ops o_slices_partialInsertionSortOrdered_int_7) (.cond (.t 37) (.seq (.ops o_slices_partialInsertionSortOrdered_int_8) .ret) .skip)) (.seq (.seq (.ops o_slices_partialInsertionSortOrdered_int_9) (.cond (.t 41) (.seq (.ops o_slices_partialInsertionSortOrdered_int_10) .ret) .skip)) (.seq (.ops o_slices_partialInsertionSortOrdered_int_11) (.seq (.seq (.ops o_slices_partialInsertionSortOrdered_int_12) (.cond (.t 61) (.seq (.ops o_slices_partialInsertionSortOrdered_int_13) (.block 4 (.loop b_slices_partialInsertionSortOrdered_int_18))) .skip)) (.seq (.ops o_slices_partialInsertionSortOrdered_int_19) (.cond (.t 98) (.seq (.ops o_slices_partialInsertionSortOrdered_int_20) (.block 6 (.loop b_slices_partialInsertionSortOrdered_int_25))) .skip)))))))) (.ops o_slices_partialInsertionSortOrdered_int_26)))
abbrev o_slices_partialInsertionSortOrdered_int_28 : List IOper := [⟨(some 6), .mv (.k (.c (.bool false))), none⟩]
def c_slices_partialInsertionSortOrdered_int : IC := (.seq (.ops o_slices_partialInsertionSortOrdered_int_0) (.seq (.ops o_slices_partialInsertionSortOrdered_int_1) (.seq (.seq (.ops o_slices_partialInsertionSortOrdered_int_2) (.block 0 (.loop b_slices_partialInsertionSortOrdered_int_27))) (.seq (.ops o_slices_partialInsertionSortOrdered_int_28) .ret))))
def i_slices_partialInsertionSortOrdered_int : IFn := ⟨133, c_slices_partialInsertionSortOrdered_int, [(6, none)]⟩

-- F 67 cmp.Less[int]: bads 0, calls [85, 85]
abbrev o_cmp_Less_int_0 : List IOper := [⟨(some 4), .mv (.k (.c (.bool false))), none⟩]
abbrev o_cmp_Less_int_1 : List IOper := [⟨(some 5), .mv (.t 0), none⟩,
  ⟨(some 6), .call (.k (.c (.fn fn_cmp_isNaN_int [] []))) [(.t 5)], none⟩,
  ⟨(some 7), .mv (.t 6), none⟩,
  ⟨(some 8), .mv (.t 1), some (7, true)⟩,
  ⟨(some 9), .call (.k (.c (.fn fn_cmp_isNaN_int [] []))) [(.t 8)], some (7, true)⟩,
  ⟨(some 10), .un .not (.t 9), some (7, true)⟩,
  ⟨(some 11), .pick (.t 7) (.t 10) (.k (.c (.bool false))), none⟩,
  ⟨(some 12), .mv (.t 11), none⟩,
  ⟨(some 13), .mv (.t 0), some (12, false)⟩,
  ⟨(some 14), .mv (.t 1), some (12, false)⟩,
  ⟨(some 15), .bin .lss (.t 13) (.t 14), some (12, false)⟩,
  ⟨(some 16), .pick (.t 12) (.k (.c (.bool true))) (.t 15), none⟩,
  ⟨(some 4), .mv (.t 16), none⟩]
def c_cmp_Less_int : IC := (.seq (.ops o_cmp_Less_int_0) (.seq (.ops o_cmp_Less_int_1) .ret))
def i_cmp_Less_int : IFn := ⟨17, c_cmp_Less_int, [(4, none)]⟩

-- F 68 slices.partitionEqualOrdered[int]: bads 0, calls [67, 67]
abbrev o_slices_partitionEqualOrdered_int_0 : List IOper := [⟨(some 8), .mv (.k (.c (.int .i64 0))), none⟩]
abbrev o_slices_partitionEqualOrdered_int_1 : List IOper := [⟨(some 11), .mv (.t 0), none⟩,
  ⟨(some 12), .mv (.t 1), none⟩,
  ⟨(some 13), .mv (.t 0), none⟩,
  ⟨(some 14), .mv (.t 3), none⟩,
  ⟨(some 15), .mv (.t 0), none⟩,
  ⟨(some 16), .mv (.t 3), none⟩,
  ⟨(some 17), .iaS 1 (.t 15) (.t 16), none⟩,
  ⟨(some 18), .ld none (.t 17), none⟩,
  ⟨(some 19), .mv (.t 0), none⟩,
  ⟨(some 20), .mv (.t 1), none⟩,
  ⟨(some 21), .iaS 1 (.t 19) (.t 20), none⟩,
  ⟨(some 22), .ld none (.t 21), none⟩,
  ⟨(some 23), .iaS 1 (.t 11) (.t 12), none⟩,
  ⟨none, .st 1 (.t 23) (.t 18), none⟩,
  ⟨(some 24), .iaS 1 (.t 13) (.t 14), none⟩,
  ⟨none, .st 1 (.t 24) (.t 22), none⟩]
abbrev o_slices_partitionEqualOrdered_int_2 : List IOper := [⟨(some 25), .mv (.t 1), none⟩,
  ⟨(some 26), .bin .add (.t 25) (.k (.c (.int .i64 1))), none⟩,
  ⟨(some 27), .mv (.t 2), none⟩,
  ⟨(some 28), .bin .sub (.t 27) (.k (.c (.int .i64 1))), none⟩,
  ⟨(some 9), .mv (.t 26), none⟩,
  ⟨(some 10), .mv (.t 28), none⟩]
abbrev o_slices_partitionEqualOrdered_int_3 : List IOper := [⟨(some 29), .mv (.t 9), none⟩,
  ⟨(some 30), .mv (.t 10), none⟩,
  ⟨(some 31), .bin .leq (.t 29) (.t 30), none⟩,
  ⟨(some 32), .mv (.t 31), none⟩,
  ⟨(some 33), .mv (.t 0), some (32, true)⟩,
  ⟨(some 34), .mv (.t 1), some (32, true)⟩,
  ⟨(some 35), .iaS 1 (.t 33) (.t 34), some (32, true)⟩,
  ⟨(some 36), .ld none (.t 35), some (32, true)⟩,
  ⟨(some 37), .mv (.t 0), some (32, true)⟩,
  ⟨(some 38), .mv (.t 9), some (32, true)⟩,
  ⟨(some 39), .iaS 1 (.t 37) (.t 38), some (32, true)⟩,
  ⟨(some 40), .ld none (.t 39), some (32, true)⟩,
  ⟨(some 41), .call (.k (.c (.fn fn_cmp_Less_int [] []))) [(.t 36), (.t 40)], some (32, true)⟩,
  ⟨(some 42), .un .not (.t 41), some (32, true)⟩,
  ⟨(some 43), .pick (.t 32) (.t 42) (.k (.c (.bool false))), none⟩]
abbrev o_slices_partitionEqualOrdered_int_4 : List IOper := [⟨(some 44), .mv (.t 9), none⟩,
  ⟨(some 45), .bin .add (.t 44) (.k (.c (.int .i64 1))), none⟩,
  ⟨(some 9), .mv (.t 45), none⟩]
def b_slices_partitionEqualOrdered_int_5 : IC := (.seq (.seq (.ops o_slices_partitionEqualOrdered_int_3) (.cond (.t 43) .skip (.exit 2))) (.block 3 (.ops o_slices_partitionEqualOrdered_int_4)))
abbrev o_slices_partitionEqualOrdered_int_6 : List IOper := [⟨(some 46), .mv (.t 9), none⟩,
  ⟨(some 47), .mv (.t 10), none⟩,
  ⟨(some 48), .bin .leq (.t 46) (.t 47), none⟩,
  ⟨(some 49), .mv (.t 48), none⟩,
  ⟨(some 50), .mv (.t 0), some (49, true)⟩,
  ⟨(some 51), .mv (.t 1), some (49, true)⟩,
  ⟨(some 52), .iaS 1 (.t 50) (.t 51), some (49, true)⟩,
  ⟨(some 53), .ld none (.t 52), some (49, true)⟩,
  ⟨(some 54), .mv (.t 0), some (49, true)⟩,
  ⟨(some 55), .mv (.t 10), some (49, true)⟩,
  ⟨(some 56), .iaS 1 (.t 54) (.t 55), some (49, true)⟩,
  ⟨(some 57), .ld none (.t 56), some (49, true)⟩,
  ⟨(some 58), .call (.k (.c (.fn fn_cmp_Less_int [] []))) [(.t 53), (.t 57)], some (49, true)⟩,
  ⟨(some 59), .pick (.t 49) (.t 58) (.k (.c (.bool false))), none⟩]
abbrev o_slices_partitionEqualOrdered_int_7 : List IOper := [⟨(some 60), .mv (.t 10), none⟩,
  ⟨(some 61), .bin .sub (.t 60) (.k (.c (.int .i64 1))), none⟩,
  ⟨(some 10), .mv (.t 61), none⟩]
def b_slices_partitionEqualOrdered_int_8 : IC := (.seq (.seq (.ops o_slices_partitionEqualOrdered_int_6) (.cond (.t 59) .skip (.exit 4))) (.block 5 (.ops o_slices_partitionEqualOrdered_int_7)))
abbrev o_slices_partitionEqualOrdered_int_9 : List IOper := [⟨(some 62), .mv (.t 9), none⟩,
  ⟨(some 63), .mv (.t 10), none⟩,
  ⟨(some 64), .bin .gtr (.t 62) (.t 63), none⟩]
abbrev o_slices_partitionEqualOrdered_int_10 : List IOper := [⟨(some 65), .mv (.t 0), none⟩,
  ⟨(some 66), .mv (.t 9), none⟩,
  ⟨(some 67), .mv (.t 0), none⟩,
  ⟨(some 68), .mv (.t 10), none⟩,
  ⟨(some 69), .mv (.t 0), none⟩,
  ⟨(some 70), .mv (.t 10), none⟩,
  ⟨(some 71), .iaS 1 (.t 69) (.t 70), none⟩,
  ⟨(some 72), .ld none (.t 71), none⟩,
  ⟨(some 73), .mv (.t 0), none⟩,
  ⟨(some 74), .mv (.t 9), none⟩,
  ⟨(some 75), .iaS 1 (.t 73) (.t 74), none⟩,
  ⟨(some 76), .ld none (.t 75), none⟩,
  ⟨(some 77), .iaS 1 (.t 65) (.t 66), none⟩,
  ⟨none, .st 1 (.t 77) (.t 72), none⟩,
  ⟨(some 78), .iaS 1 (.t 67) (.t 68), none⟩,
  ⟨none, .st 1 (.t 78) (.t 76), none⟩]
abbrev o_slices_partitionEqualOrdered_int_11 : List IOper := [⟨(some 79), .mv (.t 9), none⟩,
  ⟨(some 80), .bin .add (.t 79) (.k (.c (.int .i64 1))), none⟩,
  ⟨(some 9), .mv (.t 80), none⟩]
abbrev o_slices_partitionEqualOrdered_int_12 : List IOper := [⟨(some 81), .mv (.t 10), none⟩,
  ⟨(some 82), .bin .sub (.t 81) (.k (.c (.int .i64 1))), none⟩,
  ⟨(some 10), .mv (.t 82), none⟩]
def b_slices_partitionEqualOrdered_int_13 : IC := (.block 1 (.seq (.block 2 (.loop b_slices_partitionEqualOrdered_int_5)) (.seq (.block 4 (.loop b_slices_partitionEqualOrdered_int_8)) (.seq (.seq (.ops o_slices_partitionEqualOrdered_int_9) (.cond (.t 64) (.exit 0) .skip)) (.seq (.ops o_slices_partitionEqualOrdered_int_10) (.seq (.ops o_slices_partitionEqualOrdered_int_11) (.ops o_slices_partitionEqualOrdered_int_12)))))))
abbrev o_slices_partitionEqualOrdered_int_14 : List IOper := [⟨(some 83), .mv (.t 9), none⟩,
  ⟨(some 8), .mv (.t 83), none⟩]
def c_slices_partitionEqualOrdered_int : IC := (.seq (.ops o_slices_partitionEqualOrdered_int_0) (.seq (.ops o_slices_partitionEqualOrdered_int_1) (.seq (.ops o_slices_partitionEqualOrdered_int_2) (.seq (.block 0 (.loop b_slices_partitionEqualOrdered_int_13)) (.seq (.ops o_slices_partitionEqualOrdered_int_14) .ret)))))
def i_slices_partitionEqualOrdered_int : IFn := ⟨84, c_slices_partitionEqualOrdered_int, [(8, none)]⟩

-- F 69 slices.partitionOrdered[int]: bads 0, calls [67, 67, 67, 67]
abbrev o_slices_partitionOrdered_int_0 : List IOper := [⟨(some 8), .mv (.k (.c (.int .i64 0))), none⟩,
  ⟨(some 9), .mv (.k (.c (.bool false))), none⟩]
abbrev o_slices_partitionOrdered_int_1 : List IOper := [⟨(some 12), .mv (.t 0), none⟩,
  ⟨(some 13), .mv (.t 1), none⟩,
  ⟨(some 14), .mv (.t 0), none⟩,
  ⟨(some 15), .mv (.t 3), none⟩,
  ⟨(some 16), .mv (.t 0), none⟩,
  ⟨(some 17), .mv (.t 3), none⟩,
  ⟨(some 18), .iaS 1 (.t 16) (.t 17), none⟩,
  ⟨(some 19), .ld none (.t 18), none⟩,
  ⟨(some 20), .mv (.t 0), none⟩,
  ⟨(some 21), .mv (.t 1), none⟩,
  ⟨(some 22), .iaS 1 (.t 20) (.t 21), none⟩,
  ⟨(some 23), .ld none (.t 22), none⟩,
  ⟨(some 24), .iaS 1 (.t 12) (.t 13), none⟩,
  ⟨none, .st 1 (.t 24) (.t 19), none⟩,
  ⟨(some 25), .iaS 1 (.t 14) (.t 15), none⟩,
  ⟨none, .st 1 (.t 25) (.t 23), none⟩]
abbrev o_slices_partitionOrdered_int_2 : List IOper := [⟨(some 26), .mv (.t 1), none⟩,
  ⟨(some 27), .bin .add (.t 26) (.k (.c (.int .i64 1))), none⟩,
  ⟨(some 28), .mv (.t 2), none⟩,
  ⟨(some 29), .bin .sub (.t 28) (.k (.c (.int .i64 1))), none⟩,
  ⟨(some 10), .mv (.t 27), none⟩,
  ⟨(some 11), .mv (.t 29), none⟩]
abbrev o_slices_partitionOrdered_int_3 : List IOper := [⟨(some 30), .mv (.t 10), none⟩,
  ⟨(some 31), .mv (.t 11), none⟩,
  ⟨(some 32), .bin .leq (.t 30) (.t 31), none⟩,
  ⟨(some 33), .mv (.t 32), none⟩,
  ⟨(some 34), .mv (.t 0), some (33, true)⟩,
  ⟨(some 35), .mv (.t 10), some (33, true)⟩,
  ⟨(some 36), .iaS 1 (.t 34) (.t 35), some (33, true)⟩,
  ⟨(some 37), .ld none (.t 36), some (33, true)⟩,
  ⟨(some 38), .mv (.t 0), some (33, true)⟩,
  ⟨(some 39), .mv (.t 1), some (33, true)⟩,
  ⟨(some 40), .iaS 1 (.t 38) (.t 39), some (33, true)⟩,
  ⟨(some 41), .ld none (.t 40), some (33, true)⟩,
  ⟨(some 42), .call (.k (.c (.fn fn_cmp_Less_int [] []))) [(.t 37), (.t 41)], some (33, true)⟩,
  ⟨(some 43), .pick (.t 33) (.t 42) (.k (.c (.bool false))), none⟩]
abbrev o_slices_partitionOrdered_int_4 : List IOper := [⟨(some 44), .mv (.t 10), none⟩,
  ⟨(some 45), .bin .add (.t 44) (.k (.c (.int .i64 1))), none⟩,
  ⟨(some 10), .mv (.t 45), none⟩]
def b_slices_partitionOrdered_int_5 : IC := (.seq (.seq (.ops o_slices_partitionOrdered_int_3) (.cond (.t 43) .skip (.exit 0))) (.block 1 (.ops o_slices_partitionOrdered_int_4)))
abbrev o_slices_partitionOrdered_int_6 : List IOper := [⟨(some 46), .mv (.t 10), none⟩,
  ⟨(some 47), .mv (.t 11), none⟩,
  ⟨(some 48), .bin .leq (.t 46) (.t 47), none⟩,
  ⟨(some 49), .mv (.t 48), none⟩,
  ⟨(some 50), .mv (.t 0), some (49, true)⟩,
  ⟨(some 51), .mv (.t 11), some (49, true)⟩,
  ⟨(some 52), .iaS 1 (.t 50) (.t 51), some (49, true)⟩,
  ⟨(some 53), .ld none (.t 52), some (49, true)⟩,
  ⟨(some 54), .mv (.t 0), some (49, true)⟩,
  ⟨(some 55), .mv (.t 1), some (49, true)⟩,
  ⟨(some 56), .iaS 1 (.t 54) (.t 55), some (49, true)⟩,
  ⟨(some 57), .ld none (.t 56), some (49, true)⟩,
  ⟨(some 58), .call (.k (.c (.fn fn_cmp_Less_int [] []))) [(.t 53), (.t 57)], some (49, true)⟩,
  ⟨(some 59), .un .not (.t 58), some (49, true)⟩,
  ⟨(some 60), .pick (.t 49) (.t 59) (.k (.c (.bool false))), none⟩]
abbrev o_slices_partitionOrdered_int_7 : List IOper := [⟨(some 61), .mv (.t 11), none⟩,
  ⟨(some 62), .bin .sub (.t 61) (.k (.c (.int .i64 1))), none⟩,
  ⟨(some 11), .mv (.t 62), none⟩]
def b_slices_partitionOrdered_int_8 : IC := (.seq (.seq (.ops o_slices_partitionOrdered_int_6) (.cond (.t 60) .skip (.exit 2))) (.block 3 (.ops o_slices_partitionOrdered_int_7)))
abbrev o_slices_partitionOrdered_int_9 : List IOper := [⟨(some 63), .mv (.t 10), none⟩,
  ⟨(some 64), .mv (.t 11), none⟩,
  ⟨(some 65), .bin .gtr (.t 63) (.t 64), none⟩]
abbrev o_slices_partitionOrdered_int_10 : List IOper := [⟨(some 66), .mv (.t 0), none⟩,
  ⟨(some 67), .mv (.t 11), none⟩,
  ⟨(some 68), .mv (.t 0), none⟩,
  ⟨(some 69), .mv (.t 1), none⟩,
  ⟨(some 70), .mv (.t 0), none⟩,
  ⟨(some 71), .mv (.t 1), none⟩,
  ⟨(some 72), .iaS 1 (.t 70) (.t 71), none⟩,
  ⟨(some 73), .ld none (.t 72), none⟩,
  ⟨(some 74), .mv (.t 0), none⟩,
  ⟨(some 75), .mv (.t 11), none⟩,
  ⟨(some 76), .iaS 1 (.t 74) (.t 75), none⟩,
  ⟨(some 77), .ld none (.t 76), none⟩,
  ⟨(some 78), .iaS 1 (.t 66) (.t 67), none⟩,
  ⟨none, .st 1 (.t 78) (.t 73), none⟩,
  ⟨(some 79), .iaS 1 (.t 68) (.t 69), none⟩,
  ⟨none, .st 1 (.t 79) (.t 77), none⟩]
abbrev o_slices_partitionOrdered_int_11 : List IOper := [⟨(some 80), .mv (.t 11), none⟩,
  ⟨(some 8), .mv (.t 80), none⟩,
  ⟨(some 9), .mv (.k (.c (.bool true))), none⟩]
abbrev o_slices_partitionOrdered_int_12 : List IOper := [⟨(some 81), .mv (.t 0), none⟩,
  ⟨(some 82), .mv (.t 10), none⟩,
  ⟨(some 83), .mv (.t 0), none⟩,
  ⟨(some 84), .mv (.t 11), none⟩,
  ⟨(some 85), .mv (.t 0), none⟩,
  ⟨(some 86), .mv (.t 11), none⟩,
  ⟨(some 87), .iaS 1 (.t 85) (.t 86), none⟩,
  ⟨(some 88), .ld none (.t 87), none⟩,
  ⟨(some 89), .mv (.t 0), none⟩,
  ⟨(some 90), .mv (.t 10), none⟩,
  ⟨(some 91), .iaS 1 (.t 89) (.t 90), none⟩,
  ⟨(some 92), .ld none (.t 91), none⟩,
  ⟨(some 93), .iaS 1 (.t 81) (.t 82), none⟩,
  ⟨none, .st 1 (.t 93) (.t 88), none⟩,
  ⟨(some 94), .iaS 1 (.t 83) (.t 84), none⟩,
  ⟨none, .st 1 (.t 94) (.t 92), none⟩]
abbrev o_slices_partitionOrdered_int_13 : List IOper := [⟨(some 95), .mv (.t 10), none⟩,
  ⟨(some 96), .bin .add (.t 95) (.k (.c (.int .i64 1))), none⟩,
  ⟨(some 10), .mv (.t 96), none⟩]
abbrev o_slices_partitionOrdered_int_14 : List IOper := [⟨(some 97), .mv (.t 11), none⟩,
  ⟨(some 98), .bin .sub (.t 97) (.k (.c (.int .i64 1))), none⟩,
  ⟨(some 11), .mv (.t 98), none⟩]
abbrev o_slices_partitionOrdered_int_15 : List IOper := [⟨(some 99), .mv (.t 10), none⟩,
  ⟨(some 100), .mv (.t 11), none⟩,
  ⟨(some 101), .bin .leq (.t 99) (.t 100), none⟩,
  ⟨(some 102), .mv (.t 101), none⟩,
  ⟨(some 103), .mv (.t 0), some (102, true)⟩,
  ⟨(some 104), .mv (.t 10), some (102, true)⟩,
  ⟨(some 105), .iaS 1 (.t 103) (.t 104), some (102, true)⟩,
  ⟨(some 106), .ld none (.t 105), some (102, true)⟩,
  ⟨(some 107), .mv (.t 0), some (102, true)⟩,
  ⟨(some 108), .mv (.t 1), some (102, true)⟩,
  ⟨(some 109), .iaS 1 (.t 107) (.t 108), some (102, true)⟩,
  ⟨(some 110), .ld none (.t 109), some (102, true)⟩,
  ⟨(some 111), .call (.k (.c (.fn fn_cmp_Less_int [] []))) [(.t 106), (.t 110)], some (102, true)⟩,
  ⟨(some 112), .pick (.t 102) (.t 111) (.k (.c (.bool false))), none⟩]
abbrev o_slices_partitionOrdered_int_16 : List IOper := [⟨(some 113), .mv (.t 10), none⟩,
  ⟨(some 114), .bin .add (.t 113) (.k (.c (.int .i64 1))), none⟩,
  ⟨(some 10), .mv (.t 114), none⟩]
def b_slices_partitionOrdered_int_17 : IC := (.seq (.seq (.ops o_slices_partitionOrdered_int_15) (.cond (.t 112) .skip (.exit 6))) (.block 7 (.ops o_slices_partitionOrdered_int_16)))
abbrev o_slices_partitionOrdered_int_18 : List IOper := [⟨(some 115), .mv (.t 10), none⟩,
  ⟨(some 116), .mv (.t 11), none⟩,
  ⟨(some 117), .bin .leq (.t 115) (.t 116), none⟩,
  ⟨(some 118), .mv (.t 117), none⟩,
  ⟨(some 119), .mv (.t 0), some (118, true)⟩,
  ⟨(some 120), .mv (.t 11), some (118, true)⟩,
  ⟨(some 121), .iaS 1 (.t 119) (.t 120), some (118, true)⟩,
  ⟨(some 122), .ld none (.t 121), some (118, true)⟩,
  ⟨(some 123), .mv (.t 0), some (118, true)⟩,
  ⟨(some 124), .mv (.t 1), some (118, true)⟩,
  ⟨(some 125), .iaS 1 (.t 123) (.t 124), some (118, true)⟩,
  ⟨(some 126), .ld none (.t 125), some (118, true)⟩,
  ⟨(some 127), .call (.k (.c (.fn fn_cmp_Less_int [] []))) [(.t 122), (.t 126)], some (118, true)⟩,
  ⟨(some 128), .un .not (.t 127), some (118, true)⟩,
  ⟨(some 129), .pick (.t 118) (.t 128) (.k (.c (.bool false))), none⟩]
abbrev o_slices_partitionOrdered_int_19 : List IOper := [⟨(some 130), .mv (.t 11), none⟩,
  ⟨(some 131), .bin .sub (.t 130) (.k (.c (.int .i64 1))), none⟩,
  ⟨(some 11), .mv (.t 131), none⟩]
def b_slices_partitionOrdered_int_20 : IC := (.seq (.seq (.ops o_slices_partitionOrdered_int_18) (.cond (.t 129) .skip (.exit 8))) (.block 9 (.ops o_slices_partitionOrdered_int_19)))
abbrev o_slices_partitionOrdered_int_21 : List IOper := [⟨(some 132), .mv (.t 10), none⟩,
  ⟨(some 133), .mv (.t 11), none⟩,
  ⟨(some 134), .bin .gtr (.t 132) (.t 133), none⟩]
abbrev o_slices_partitionOrdered_int_22 : List IOper := [⟨(some 135), .mv (.t 0), none⟩,
  ⟨(some 136), .mv (.t 10), none⟩,
  ⟨(some 137), .mv (.t 0), none⟩,
  ⟨(some 138), .mv (.t 11), none⟩,
  ⟨(some 139), .mv (.t 0), none⟩,
  ⟨(some 140), .mv (.t 11), none⟩,
  ⟨(some 141), .iaS 1 (.t 139) (.t 140), none⟩,
  ⟨(some 142), .ld none (.t 141), none⟩,
  ⟨(some 143), .mv (.t 0), none⟩,
  ⟨(some 144), .mv (.t 10), none⟩,
  ⟨(some 145), .iaS 1 (.t 143) (.t 144), none⟩,
  ⟨(some 146), .ld none (.t 145), none⟩,
  ⟨(some 147), .iaS 1 (.t 135) (.t 136), none⟩,
  ⟨none, .st 1 (.t 147) (.t 142), none⟩,
  ⟨(some 148), .iaS 1 (.t 137) (.t 138), none⟩,
  ⟨none, .st 1 (.t 148) (.t 146), none⟩]
abbrev o_slices_partitionOrdered_int_23 : List IOper := [⟨(some 149), .mv (.t 10), none⟩,
  ⟨(some 150), .bin .add (.t 149) (.k (.c (.int .i64 1))), none⟩,
  ⟨(some 10), .mv (.t 150), none⟩]
abbrev o_slices_partitionOrdered_int_24 : List IOper := [⟨(some 151), .mv (.t 11), none⟩,
  ⟨(some 152), .bin .sub (.t 151) (.k (.c (.int .i64 1))), none⟩,
  ⟨(some 11), .mv (.t 152), none⟩]
def b_slices_partitionOrdered_int_25 : IC := (.block 5 (.seq (.block 6 (.loop b_slices_partitionOrdered_int_17)) (.seq (.block 8 (.loop b_slices_partitionOrdered_int_20)) (.seq (.seq (.ops o_slices_partitionOrdered_int_21) (.cond (.t 134) (.exit 4) .skip)) (.seq (.ops o_slices_partitionOrdered_int_22) (.seq (.ops o_slices_partitionOrdered_int_23) (.ops o_slices_partitionOrdered_int_24)))))))
abbrev o_slices_partitionOrdered_int_26 : List IOper := [⟨(some 153), .mv (.t 0), none⟩,
  ⟨(some 154), .mv (.t 11), none⟩,
  ⟨(some 155), .mv (.t 0), none⟩,
  ⟨(some 156), .mv (.t 1), none⟩,
  ⟨(some 157), .mv (.t 0), none⟩,
  ⟨(some 158), .mv (.t 1), none⟩,
  ⟨(some 159), .iaS 1 (.t 157) (.t 158), none⟩,
  ⟨(some 160), .ld none (.t 159), none⟩,
  ⟨(some 161), .mv (.t 0), none⟩,
  ⟨(some 162), .mv (.t 11), none⟩,
  ⟨(some 163), .iaS 1 (.t 161) (.t 162), none⟩,
  ⟨(some 164), .ld none (.t 163), none⟩,
  ⟨(some 165), .iaS 1 (.t 153) (.t 154), none⟩,
  ⟨none, .st 1 (.t 165) (.t 160), none⟩,
  ⟨(some 166), .iaS 1 (.t 155) (.t 156), none⟩,
  ⟨none, .st 1 (.t 166) (.t 164), none⟩]
abbrev o_slices_partitionOrdered_int_27 : List IOper := [⟨(some 167), .mv (.t 11), none⟩,
  ⟨(some 8), .mv (.t 167), none⟩,
  ⟨(some 9), .mv (.k (.c (.bool false))), none⟩]
def c_slices_partitionOrdered_int : IC := (.seq (.ops o_slices_partitionOrdered_int_0) (.seq (.ops o_slices_partitionOrdered_int_1) (.seq (.ops o_slices_partitionOrdered_int_2) (.seq (.block 0 (.loop b_slices_partitionOrdered_int_5)) (.seq (.block 2 (.loop b_slices_partitionOrdered_int_8)) (.seq (.seq (.ops o_slices_partitionOrdered_int_9) (.cond (.t 65) (.seq (.ops o_slices_partitionOrdered_int_10) (.seq (.ops o_slices_partitionOrdered_int_11) .ret)) .skip)) (.seq (.ops o_slices_partitionOrdered_int_12) (.seq (.ops o_slices_partitionOrdered_int_13) (.seq (.ops o_slices_partitionOrdered_int_14) (.seq (.block 4 (.loop b_slices_partitionOrdered_int_25)) (.seq (.ops o_slices_partitionOrdered_int_26) (.seq (.ops o_slices_partitionOrdered_int_27) .ret))))))))))))
def i_slices_partitionOrdered_int : IFn := ⟨168, c_slices_partitionOrdered_int, [(8, none), (9, none)]⟩

-- F 70 math/bits.Len32: bads 0, calls []
abbrev o_bits_Len32_0 : List IOper := [⟨(some 2), .mv (.k (.c (.int .i64 0))), none⟩]
abbrev o_bits_Len32_1 : List IOper := [⟨(some 3), .mv (.t 0), none⟩,
  ⟨(some 4), .bin .geq (.t 3) (.k (.c (.int .u32 65536))), none⟩]
abbrev o_bits_Len32_2 : List IOper := [⟨(some 5), .mv (.t 0), none⟩,
  ⟨(some 6), .bin .shr (.t 5) (.k (.c (.int .u64 16))), none⟩,
  ⟨(some 0), .mv (.t 6), none⟩]
abbrev o_bits_Len32_3 : List IOper := [⟨(some 2), .mv (.k (.c (.int .i64 16))), none⟩]
abbrev o_bits_Len32_4 : List IOper := [⟨(some 7), .mv (.t 0), none⟩,
  ⟨(some 8), .bin .geq (.t 7) (.k (.c (.int .u32 256))), none⟩]
abbrev o_bits_Len32_5 : List IOper := [⟨(some 9), .mv (.t 0), none⟩,
  ⟨(some 10), .bin .shr (.t 9) (.k (.c (.int .u64 8))), none⟩,
  ⟨(some 0), .mv (.t 10), none⟩]
abbrev o_bits_Len32_6 : List IOper := [⟨(some 11), .mv (.t 2), none⟩,
  ⟨(some 12), .bin .add (.t 11) (.k (.c (.int .i64 8))), none⟩,
  ⟨(some 2), .mv (.t 12), none⟩]
abbrev o_bits_Len32_7 : List IOper := [⟨(some 13), .mv (.t 2), none⟩,
  ⟨(some 14), .mv (.t 0), none⟩,
  ⟨(some 15), .cv .u8 (.t 14), none⟩,
  ⟨(some 16), .ixT (.k (.c (.str ⟨#[0, 1, 2, 2, 3, 3, 3, 3, 4, 4, 4, 4, 4, 4, 4, 4, 5, 5, 5, 5, 5, 5, 5, 5, 5, 5, 5, 5, 5, 5, 5, 5, 6, 6, 6, 6, 6, 6, 6, 6, 6, 6, 6, 6, 6, 6, 6, 6, 6, 6, 6, 6, 6, 6, 6, 6, 6, 6, 6, 6, 6, 6, 6, 6, 7, 7, 7, 7, 7, 7, 7, 7, 7, 7, 7, 7, 7, 7, 7, 7, 7, 7, 7, 7, 7, 7, 7, 7, 7, 7, 7, 7, 7, 7, 7, 7, 7, 7, 7, 7, 7, 7, 7, 7, 7, 7, 7, 7, 7, 7, 7, 7, 7, 7, 7, 7, 7, 7, 7, 7, 7, 7, 7, 7, 7, 7, 7, 7, 8, 8, 8, 8, 8, 8, 8, 8, 8, 8, 8, 8, 8, 8, 8, 8, 8, 8, 8, 8, 8, 8, 8, 8, 8, 8, 8, 8, 8, 8, 8, 8, 8, 8, 8, 8, 8, 8, 8, 8, 8, 8, 8, 8, 8, 8, 8, 8, 8, 8, 8, 8, 8, 8, 8, 8, 8, 8, 8, 8, 8, 8, 8, 8, 8, 8, 8, 8, 8, 8, 8, 8, 8, 8, 8, 8, 8, 8, 8, 8, 8, 8, 8, 8, 8, 8, 8, 8, 8, 8, 8, 8, 8, 8, 8, 8, 8, 8, 8, 8, 8, 8, 8, 8, 8, 8, 8, 8, 8, 8, 8, 8, 8, 8, 8, 8, 8, 8, 8, 8, 8, 8, 8, 8, 8, 8, 8, 8]⟩))) (.t 15), none⟩,
  ⟨(some 17), .cv .i64 (.t 16), none⟩,
  ⟨(some 18), .bin .add (.t 13) (.t 17), none⟩,
  ⟨(some 2), .mv (.t 18), none⟩]
def c_bits_Len32 : IC := (.seq (.ops o_bits_Len32_0) (.seq (.seq (.ops o_bits_Len32_1) (.cond (.t 4) (.seq (.ops o_bits_Len32_2) (.ops o_bits_Len32_3)) .skip)) (.seq (.seq (.ops o_bits_Len32_4) (.cond (.t 8) (.seq (.ops o_bits_Len32_5) (.ops o_bits_Len32_6)) .skip)) (.seq (.ops o_bits_Len32_7) .ret))))
def i_bits_Len32 : IFn := ⟨19, c_bits_Len32, [(2, none)]⟩

-- F 71 math/bits.Len64: bads 0, calls []
abbrev o_bits_Len64_0 : List IOper := [⟨(some 2), .mv (.k (.c (.int .i64 0))), none⟩]
abbrev o_bits_Len64_1 : List IOper := [⟨(some 3), .mv (.t 0), none⟩,
  ⟨(some 4), .bin .geq (.t 3) (.k (.c (.int .u64 4294967296))), none⟩]
abbrev o_bits_Len64_2 : List IOper := [⟨(some 5), .mv (.t 0), none⟩,
  ⟨(some 6), .bin .shr (.t 5) (.k (.c (.int .u64 32))), none⟩,
  ⟨(some 0), .mv (.t 6), none⟩]
abbrev o_bits_Len64_3 : List IOper := [⟨(some 2), .mv (.k (.c (.int .i64 32))), none⟩]
abbrev o_bits_Len64_4 : List IOper := [⟨(some 7), .mv (.t 0), none⟩,
  ⟨(some 8), .bin .geq (.t 7) (.k (.c (.int .u64 65536))), none⟩]
abbrev o_bits_Len64_5 : List IOper := [⟨(some 9), .mv (.t 0), none⟩,
  ⟨(some 10), .bin .shr (.t 9) (.k (.c (.int .u64 16))), none⟩,
  ⟨(some 0), .mv (.t 10), none⟩]
abbrev o_bits_Len64_6 : List IOper := [⟨(some 11), .mv (.t 2), none⟩,
  ⟨(some 12), .bin .add (.t 11) (.k (.c (.int .i64 16))), none⟩,
  ⟨(some 2), .mv (.t 12), none⟩]
abbrev o_bits_Len64_7 : List IOper := [⟨(some 13), .mv (.t 0), none⟩,
  ⟨(some 14), .bin .geq (.t 13) (.k (.c (.int .u64 256))), none⟩]
abbrev o_bits_Len64_8 : List IOper := [⟨(some 15), .mv (.t 0), none⟩,
  ⟨(some 16), .bin .shr (.t 15) (.k (.c (.int .u64 8))), none⟩,
  ⟨(some 0), .mv (.t 16), none⟩]
abbrev o_bits_Len64_9 : List IOper := [⟨(some 17), .mv (.t 2), none⟩,
  ⟨(some 18), .bin .add (.t 17) (.k (.c (.int .i64 8))), none⟩,
  ⟨(some 2), .mv (.t 18), none⟩]
abbrev o_bits_Len64_10 : List IOper := [⟨(some 19), .mv (.t 2), none⟩,
  ⟨(some 20), .mv (.t 0), none⟩,
  ⟨(some 21), .cv .u8 (.t 20), none⟩,
  ⟨(some 22), .ixT (.k (.c (.str ⟨#[0, 1, 2, 2, 3, 3, 3, 3, 4, 4, 4, 4, 4, 4, 4, 4, 5, 5, 5, 5, 5, 5, 5, 5, 5, 5, 5, 5, 5, 5, 5, 5, 6, 6, 6, 6, 6, 6, 6, 6, 6, 6, 6, 6, 6, 6, 6, 6, 6, 6, 6, 6, 6, 6, 6, 6, 6, 6, 6, 6, 6, 6, 6, 6, 7, 7, 7, 7, 7, 7, 7, 7, 7, 7, 7, 7, 7, 7, 7, 7, 7, 7, 7, 7, 7, 7, 7, 7, 7, 7, 7, 7, 7, 7, 7, 7, 7, 7, 7, 7, 7, 7, 7, 7, 7, 7, 7, 7, 7, 7, 7, 7, 7, 7, 7, 7, 7, 7, 7, 7, 7, 7, 7, 7, 7, 7, 7, 7, 8, 8, 8, 8, 8, 8, 8, 8, 8, 8, 8, 8, 8, 8, 8, 8, 8, 8, 8, 8, 8, 8, 8, 8, 8, 8, 8, 8, 8, 8, 8, 8, 8, 8, 8, 8, 8, 8, 8, 8, 8, 8, 8, 8, 8, 8, 8, 8, 8, 8, 8, 8, 8, 8, 8, 8, 8, 8, 8, 8, 8, 8, 8, 8, 8, 8, 8, 8, 8, 8, 8, 8, 8, 8, 8, 8, 8, 8, 8, 8, 8, 8, 8, 8, 8, 8, 8, 8, 8, 8, 8, 8, 8, 8, 8, 8, 8, 8, 8, 8, 8, 8, 8, 8, 8, 8, 8, 8, 8, 8, 8, 8, 8, 8, 8, 8, 8, 8, 8, 8, 8, 8, 8, 8, 8, 8, 8, 8]⟩))) (.t 21), none⟩,
  ⟨(some 23), .cv .i64 (.t 22), none⟩,
  ⟨(some 24), .bin .add (.t 19) (.t 23), none⟩,
  ⟨(some 2), .mv (.t 24), none⟩]
def c_bits_Len64 : IC := (.seq (.ops o_bits_Len64_0) (.seq (.seq (.ops o_bits_Len64_1) (.cond (.t 4) (.seq (.ops o_bits_Len64_2) (.ops o_bits_Len64_3)) .skip)) (.seq (.seq (.ops o_bits_Len64_4) (.cond (.t 8) (.seq (.ops o_bits_Len64_5) (.ops o_bits_Len64_6)) .skip)) (.seq (.seq (.ops o_bits_Len64_7) (.cond (.t 14) (.seq (.ops o_bits_Len64_8) (.ops o_bits_Len64_9)) .skip)) (.seq (.ops o_bits_Len64_10) .ret)))))
def i_bits_Len64 : IFn := ⟨25, c_bits_Len64, [(2, none)]⟩

-- F 72 rota/rotaref02.count: bads 0, calls []
abbrev o_rotaref02_count_0 : List IOper := [⟨(some 4), .mv (.k (.c (.int .i64 0))), none⟩]
abbrev o_rotaref02_count_1 : List IOper := [⟨(some 5), .mv (.k (.c (.int .i64 0))), none⟩]
abbrev o_rotaref02_count_2 : List IOper := [⟨(some 6), .mv (.k (.c (.int .i64 0))), none⟩]
abbrev o_rotaref02_count_3 : List IOper := [⟨(some 7), .mv (.t 6), none⟩,
  ⟨(some 8), .mv (.t 0), none⟩,
  ⟨(some 9), .len false (.t 8), none⟩,
  ⟨(some 10), .bin .lss (.t 7) (.t 9), none⟩]
abbrev o_rotaref02_count_4 : List IOper := [⟨(some 13), .mv (.t 0), none⟩,
  ⟨(some 14), .mv (.t 6), none⟩,
  ⟨(some 15), .iaS 1 (.t 13) (.t 14), none⟩,
  ⟨(some 16), .ld none (.t 15), none⟩,
  ⟨(some 17), .mv (.t 1), none⟩,
  ⟨(some 18), .bin .eql (.t 16) (.t 17), none⟩]
abbrev o_rotaref02_count_5 : List IOper := [⟨(some 19), .mv (.t 5), none⟩,
  ⟨(some 20), .bin .add (.t 19) (.k (.c (.int .i64 1))), none⟩,
  ⟨(some 5), .mv (.t 20), none⟩]
abbrev o_rotaref02_count_6 : List IOper := [⟨(some 11), .mv (.t 6), none⟩,
  ⟨(some 12), .bin .add (.t 11) (.k (.c (.int .i64 1))), none⟩,
  ⟨(some 6), .mv (.t 12), none⟩]
def b_rotaref02_count_7 : IC := (.seq (.seq (.ops o_rotaref02_count_3) (.cond (.t 10) .skip (.exit 0))) (.seq (.block 1 (.seq (.ops o_rotaref02_count_4) (.cond (.t 18) (.ops o_rotaref02_count_5) .skip))) (.ops o_rotaref02_count_6)))
abbrev o_rotaref02_count_8 : List IOper := [⟨(some 21), .mv (.t 5), none⟩,
  ⟨(some 4), .mv (.t 21), none⟩]
def c_rotaref02_count : IC := (.seq (.ops o_rotaref02_count_0) (.seq (.ops o_rotaref02_count_1) (.seq (.seq (.ops o_rotaref02_count_2) (.block 0 (.loop b_rotaref02_count_7))) (.seq (.ops o_rotaref02_count_8) .ret))))
def i_rotaref02_count : IFn := ⟨22, c_rotaref02_count, [(4, none)]⟩

-- F 73 rota/rotaref02.Precision: bads 0, calls []
abbrev o_rotaref02_Precision_0 : List IOper := [⟨(some 1), .box 28 (.t 0), none⟩,
  ⟨(some 2), .mv (.k (.c (.int .i64 0))), none⟩]
abbrev o_rotaref02_Precision_1 : List IOper := [⟨(some 3), .fa 2 (.t 1), none⟩,
  ⟨(some 4), .ld none (.t 3), none⟩,
  ⟨(some 5), .fa 3 (.t 1), none⟩,
  ⟨(some 6), .ld none (.t 5), none⟩,
  ⟨(some 7), .bin .add (.t 4) (.t 6), none⟩,
  ⟨(some 8), .bin .mul (.k (.c (.int .i64 2))) (.t 7), none⟩,
  ⟨(some 9), .bin .add (.t 8) (.k (.c (.int .i64 1))), none⟩,
  ⟨(some 2), .mv (.t 9), none⟩]
def c_rotaref02_Precision : IC := (.seq (.ops o_rotaref02_Precision_0) (.seq (.ops o_rotaref02_Precision_1) .ret))
def i_rotaref02_Precision : IFn := ⟨10, c_rotaref02_Precision, [(2, none)]⟩

-- F 74 rota/rotaref02.meet: bads 0, calls []
abbrev o_rotaref02_meet_0 : List IOper := [⟨(some 8), .mv (.k (.c (.bool false))), none⟩]
abbrev o_rotaref02_meet_1 : List IOper := [⟨(some 10), .mv (.t 0), none⟩,
  ⟨(some 9), .mv (.t 10), none⟩]
abbrev o_rotaref02_meet_2 : List IOper := [⟨(some 11), .mv (.t 9), none⟩,
  ⟨(some 12), .mv (.t 1), none⟩,
  ⟨(some 13), .bin .lss (.t 11) (.t 12), none⟩]
abbrev o_rotaref02_meet_3 : List IOper := [⟨(some 16), .mv (.t 9), none⟩,
  ⟨(some 17), .mv (.t 2), none⟩,
  ⟨(some 18), .bin .geq (.t 16) (.t 17), none⟩,
  ⟨(some 19), .mv (.t 18), none⟩,
  ⟨(some 20), .mv (.t 9), some (19, true)⟩,
  ⟨(some 21), .mv (.t 3), some (19, true)⟩,
  ⟨(some 22), .bin .lss (.t 20) (.t 21), some (19, true)⟩,
  ⟨(some 23), .pick (.t 19) (.t 22) (.k (.c (.bool false))), none⟩]
abbrev o_rotaref02_meet_4 : List IOper := [⟨(some 8), .mv (.k (.c (.bool true))), none⟩]
abbrev o_rotaref02_meet_5 : List IOper := [⟨(some 14), .mv (.t 9), none⟩,
  ⟨(some 15), .bin .add (.t 14) (.k (.c (.int .i64 1))), none⟩,
  ⟨(some 9), .mv (.t 15), none⟩]
def b_rotaref02_meet_6 : IC := (.seq (.seq (.ops o_rotaref02_meet_2) (.cond (.t 13) .skip (.exit 0))) (.seq (.block 1 (.seq (.ops o_rotaref02_meet_3) (.cond (.t 23) (.seq (.ops o_rotaref02_meet_4) .ret) .skip))) (.ops o_rotaref02_meet_5)))
abbrev o_rotaref02_meet_7 : List IOper := [⟨(some 8), .mv (.k (.c (.bool false))), none⟩]
def c_rotaref02_meet : IC := (.seq (.ops o_rotaref02_meet_0) (.seq (.seq (.ops o_rotaref02_meet_1) (.block 0 (.loop b_rotaref02_meet_6))) (.seq (.ops o_rotaref02_meet_7) .ret)))
def i_rotaref02_meet : IFn := ⟨24, c_rotaref02_meet, [(8, none)]⟩

-- F 75 rota/rotaref02.Alone: bads 0, calls []
abbrev o_rotaref02_Alone_0 : List IOper := [⟨(some 1), .box 91 (.t 0), none⟩,
  ⟨(some 2), .mv (.k (.c (.bool false))), none⟩]
abbrev o_rotaref02_Alone_1 : List IOper := [⟨(some 3), .fa 1 (.t 1), none⟩,
  ⟨(some 4), .ld none (.t 3), none⟩,
  ⟨(some 5), .bin .lss (.t 4) (.k (.c (.int .i64 1))), none⟩,
  ⟨(some 6), .mv (.t 5), none⟩,
  ⟨(some 7), .fa 1 (.t 1), some (6, false)⟩,
  ⟨(some 8), .ld none (.t 7), some (6, false)⟩,
  ⟨(some 9), .bin .gtr (.t 8) (.k (.c (.int .i64 2))), some (6, false)⟩,
  ⟨(some 10), .pick (.t 6) (.k (.c (.bool true))) (.t 9), none⟩,
  ⟨(some 11), .mv (.t 10), none⟩,
  ⟨(some 12), .fa 2 (.t 1), some (11, false)⟩,
  ⟨(some 13), .ld none (.t 12), some (11, false)⟩,
  ⟨(some 14), .bin .lss (.t 13) (.k (.c (.int .i64 1))), some (11, false)⟩,
  ⟨(some 15), .pick (.t 11) (.k (.c (.bool true))) (.t 14), none⟩,
  ⟨(some 16), .mv (.t 15), none⟩,
  ⟨(some 17), .fa 2 (.t 1), some (16, false)⟩,
  ⟨(some 18), .ld none (.t 17), some (16, false)⟩,
  ⟨(some 19), .bin .gtr (.t 18) (.k (.c (.int .i64 2))), some (16, false)⟩,
  ⟨(some 20), .pick (.t 16) (.k (.c (.bool true))) (.t 19), none⟩,
  ⟨(some 21), .mv (.t 20), none⟩,
  ⟨(some 22), .fa 3 (.t 1), some (21, false)⟩,
  ⟨(some 23), .ld none (.t 22), some (21, false)⟩,
  ⟨(some 24), .bin .lss (.t 23) (.k (.c (.int .i64 1))), some (21, false)⟩,
  ⟨(some 25), .pick (.t 21) (.k (.c (.bool true))) (.t 24), none⟩,
  ⟨(some 26), .mv (.t 25), none⟩,
  ⟨(some 27), .fa 3 (.t 1), some (26, false)⟩,
  ⟨(some 28), .ld none (.t 27), some (26, false)⟩,
  ⟨(some 29), .bin .gtr (.t 28) (.k (.c (.int .i64 32))), some (26, false)⟩,
  ⟨(some 30), .pick (.t 26) (.k (.c (.bool true))) (.t 29), none⟩]
abbrev o_rotaref02_Alone_2 : List IOper := [⟨(some 2), .mv (.k (.c (.bool false))), none⟩]
abbrev o_rotaref02_Alone_3 : List IOper := [⟨(some 31), .fa 1 (.t 1), none⟩,
  ⟨(some 32), .ld none (.t 31), none⟩,
  ⟨(some 33), .bin .eql (.t 32) (.k (.c (.int .i64 2))), none⟩]
abbrev o_rotaref02_Alone_4 : List IOper := [⟨(some 34), .fa 4 (.t 1), none⟩,
  ⟨(some 35), .ld none (.t 34), none⟩,
  ⟨(some 36), .bin .geq (.t 35) (.k (.c (.int .i64 1))), none⟩,
  ⟨(some 37), .mv (.t 36), none⟩,
  ⟨(some 38), .fa 4 (.t 1), some (37, true)⟩,
  ⟨(some 39), .ld none (.t 38), some (37, true)⟩,
  ⟨(some 40), .bin .leq (.t 39) (.k (.c (.int .i64 8))), some (37, true)⟩,
  ⟨(some 41), .pick (.t 37) (.t 40) (.k (.c (.bool false))), none⟩,
  ⟨(some 42), .mv (.t 41), none⟩,
  ⟨(some 43), .fa 5 (.t 1), some (42, true)⟩,
  ⟨(some 44), .ld none (.t 43), some (42, true)⟩,
  ⟨(some 45), .bin .eql (.t 44) (.k (.c (.int .i64 0))), some (42, true)⟩,
  ⟨(some 46), .pick (.t 42) (.t 45) (.k (.c (.bool false))), none⟩,
  ⟨(some 2), .mv (.t 46), none⟩]
abbrev o_rotaref02_Alone_5 : List IOper := [⟨(some 47), .fa 2 (.t 1), none⟩,
  ⟨(some 48), .ld none (.t 47), none⟩,
  ⟨(some 49), .bin .eql (.t 48) (.k (.c (.int .i64 2))), none⟩]
abbrev o_rotaref02_Alone_6 : List IOper := [⟨(some 50), .fa 4 (.t 1), none⟩,
  ⟨(some 51), .ld none (.t 50), none⟩,
  ⟨(some 52), .bin .eql (.t 51) (.k (.c (.int .i64 0))), none⟩,
  ⟨(some 53), .mv (.t 52), none⟩,
  ⟨(some 54), .fa 5 (.t 1), some (53, true)⟩,
  ⟨(some 55), .ld none (.t 54), some (53, true)⟩,
  ⟨(some 56), .bin .geq (.t 55) (.k (.c (.int .i64 1))), some (53, true)⟩,
  ⟨(some 57), .pick (.t 53) (.t 56) (.k (.c (.bool false))), none⟩,
  ⟨(some 58), .mv (.t 57), none⟩,
  ⟨(some 59), .fa 5 (.t 1), some (58, true)⟩,
  ⟨(some 60), .ld none (.t 59), some (58, true)⟩,
  ⟨(some 61), .bin .leq (.t 60) (.k (.c (.int .i64 65535))), some (58, true)⟩,
  ⟨(some 62), .pick (.t 58) (.t 61) (.k (.c (.bool false))), none⟩,
  ⟨(some 2), .mv (.t 62), none⟩]
abbrev o_rotaref02_Alone_7 : List IOper := [⟨(some 63), .fa 4 (.t 1), none⟩,
  ⟨(some 64), .ld none (.t 63), none⟩,
  ⟨(some 65), .bin .eql (.t 64) (.k (.c (.int .i64 0))), none⟩,
  ⟨(some 66), .mv (.t 65), none⟩,
  ⟨(some 67), .fa 5 (.t 1), some (66, true)⟩,
  ⟨(some 68), .ld none (.t 67), some (66, true)⟩,
  ⟨(some 69), .bin .eql (.t 68) (.k (.c (.int .i64 0))), some (66, true)⟩,
  ⟨(some 70), .pick (.t 66) (.t 69) (.k (.c (.bool false))), none⟩,
  ⟨(some 2), .mv (.t 70), none⟩]
def c_rotaref02_Alone : IC := (.seq (.ops o_rotaref02_Alone_0) (.seq (.seq (.ops o_rotaref02_Alone_1) (.cond (.t 30) (.seq (.ops o_rotaref02_Alone_2) .ret) .skip)) (.seq (.seq (.ops o_rotaref02_Alone_3) (.cond (.t 33) (.seq (.ops o_rotaref02_Alone_4) .ret) .skip)) (.seq (.seq (.ops o_rotaref02_Alone_5) (.cond (.t 49) (.seq (.ops o_rotaref02_Alone_6) .ret) .skip)) (.seq (.ops o_rotaref02_Alone_7) .ret)))))
def i_rotaref02_Alone : IFn := ⟨71, c_rotaref02_Alone, [(2, none)]⟩

-- F 76 rota/rotaref02.is: bads 0, calls []
abbrev o_rotaref02_is_0 : List IOper := [⟨(some 2), .box 28 (.t 0), none⟩,
  ⟨(some 4), .mv (.k (.c (.bool false))), none⟩]
abbrev o_rotaref02_is_1 : List IOper := [⟨(some 5), .mv (.t 1), none⟩,
  ⟨(some 6), .bin .geq (.t 5) (.k (.c (.int .i64 0))), none⟩,
  ⟨(some 7), .mv (.t 6), none⟩,
  ⟨(some 8), .mv (.t 1), some (7, true)⟩,
  ⟨(some 9), .fa 10 (.t 2), some (7, true)⟩,
  ⟨(some 10), .ld none (.t 9), some (7, true)⟩,
  ⟨(some 11), .len false (.t 10), some (7, true)⟩,
  ⟨(some 12), .bin .lss (.t 8) (.t 11), some (7, true)⟩,
  ⟨(some 13), .pick (.t 7) (.t 12) (.k (.c (.bool false))), none⟩,
  ⟨(some 4), .mv (.t 13), none⟩]
def c_rotaref02_is : IC := (.seq (.ops o_rotaref02_is_0) (.seq (.ops o_rotaref02_is_1) .ret))
def i_rotaref02_is : IFn := ⟨14, c_rotaref02_is, [(4, none)]⟩

-- F 77 rota/rotaref08.Half: bads 0, calls []
abbrev o_rotaref08_Half_0 : List IOper := [⟨(some 2), .mv (.k (.c (.int .i64 0))), none⟩]
abbrev o_rotaref08_Half_1 : List IOper := [⟨(some 3), .mv (.t 0), none⟩,
  ⟨(some 4), .bin .lss (.t 3) (.k (.c (.int .i64 0))), none⟩,
  ⟨(some 5), .mv (.t 4), none⟩,
  ⟨(some 6), .mv (.t 0), some (5, true)⟩,
  ⟨(some 7), .bin .rem (.t 6) (.k (.c (.int .i64 2))), some (5, true)⟩,
  ⟨(some 8), .bin .neq (.t 7) (.k (.c (.int .i64 0))), some (5, true)⟩,
  ⟨(some 9), .pick (.t 5) (.t 8) (.k (.c (.bool false))), none⟩]
abbrev o_rotaref08_Half_2 : List IOper := [⟨(some 10), .mv (.t 0), none⟩,
  ⟨(some 11), .bin .quo (.t 10) (.k (.c (.int .i64 2))), none⟩,
  ⟨(some 12), .bin .sub (.t 11) (.k (.c (.int .i64 1))), none⟩,
  ⟨(some 2), .mv (.t 12), none⟩]
abbrev o_rotaref08_Half_3 : List IOper := [⟨(some 13), .mv (.t 0), none⟩,
  ⟨(some 14), .bin .quo (.t 13) (.k (.c (.int .i64 2))), none⟩,
  ⟨(some 2), .mv (.t 14), none⟩]
def c_rotaref08_Half : IC := (.seq (.ops o_rotaref08_Half_0) (.seq (.seq (.ops o_rotaref08_Half_1) (.cond (.t 9) (.seq (.ops o_rotaref08_Half_2) .ret) .skip)) (.seq (.ops o_rotaref08_Half_3) .ret)))
def i_rotaref08_Half : IFn := ⟨15, c_rotaref08_Half, [(2, none)]⟩

-- F 78 slices.Index[[]int,int]: bads 0, calls []
abbrev o_slices_Index_int_int_0 : List IOper := [⟨(some 4), .mv (.k (.c (.int .i64 0))), none⟩]
abbrev o_slices_Index_int_int_1 : List IOper := [⟨(some 6), .mv (.t 0), none⟩,
  ⟨(some 7), .len false (.t 6), none⟩,
  ⟨(some 8), .mv (.k (.c (.int .i64 0))), none⟩]
abbrev o_slices_Index_int_int_2 : List IOper := [⟨(some 9), .bin .lss (.t 8) (.t 7), none⟩]
abbrev o_slices_Index_int_int_3 : List IOper := [⟨(some 10), .mv (.t 8), none⟩,
  ⟨(some 5), .mv (.t 10), none⟩]
abbrev o_slices_Index_int_int_4 : List IOper := [⟨(some 11), .mv (.t 1), none⟩,
  ⟨(some 12), .mv (.t 0), none⟩,
  ⟨(some 13), .mv (.t 5), none⟩,
  ⟨(some 14), .iaS 1 (.t 12) (.t 13), none⟩,
  ⟨(some 15), .ld none (.t 14), none⟩,
  ⟨(some 16), .bin .eql (.t 11) (.t 15), none⟩]
abbrev o_slices_Index_int_int_5 : List IOper := [⟨(some 17), .mv (.t 5), none⟩,
  ⟨(some 4), .mv (.t 17), none⟩]
abbrev o_slices_Index_int_int_6 : List IOper := [⟨(some 18), .bin .add (.t 8) (.k (.c (.int .i64 1))), none⟩,
  ⟨(some 8), .mv (.t 18), none⟩]
def b_slices_Index_int_int_7 : IC := (.seq (.ops o_slices_Index_int_int_2) (.seq (.cond (.t 9) .skip (.exit 0)) (.seq (.block 1 (.seq (.ops o_slices_Index_int_int_3) (.seq (.ops o_slices_Index_int_int_4) (.cond (.t 16) (.seq (.ops o_slices_Index_int_int_5) .ret) .skip)))) (.ops o_slices_Index_int_int_6))))
abbrev o_slices_Index_int_int_8 : List IOper := [⟨(some 4), .mv (.k (.c (.int .i64 (-1)))), none⟩]
def c_slices_Index_int_int : IC := (.seq (.ops o_slices_Index_int_int_0) (.seq (.seq (.ops o_slices_Index_int_int_1) (.block 0 (.loop b_slices_Index_int_int_7))) (.seq (.ops o_slices_Index_int_int_8) .ret)))
def i_slices_Index_int_int : IFn := ⟨19, c_slices_Index_int_int, [(4, none)]⟩

-- F 79 rota/config.pairs$1: bads 0, calls []
abbrev o_config_pairs_1_0 : List IOper := [⟨(some 5), .ld none (.t 1), none⟩,
  ⟨(some 6), .mv (.k (.c (.int .i64 0))), none⟩]
abbrev o_config_pairs_1_1 : List IOper := [⟨(some 7), .bin .lss (.t 6) (.t 5), none⟩]
abbrev o_config_pairs_1_2 : List IOper := [⟨(some 8), .mv (.t 6), none⟩,
  ⟨(some 3), .mv (.t 8), none⟩]
abbrev o_config_pairs_1_3 : List IOper := [⟨(some 9), .mv (.t 3), none⟩,
  ⟨(some 10), .mv (.k (.c (.int .i64 0))), none⟩]
abbrev o_config_pairs_1_4 : List IOper := [⟨(some 11), .bin .lss (.t 10) (.t 9), none⟩]
abbrev o_config_pairs_1_5 : List IOper := [⟨(some 12), .mv (.t 10), none⟩,
  ⟨(some 4), .mv (.t 12), none⟩]
abbrev o_config_pairs_1_6 : List IOper := [⟨(some 13), .mv (.t 0), none⟩,
  ⟨(some 14), .mv (.t 4), none⟩,
  ⟨(some 15), .mv (.t 3), none⟩,
  ⟨(some 16), .call (.t 13) [(.t 14), (.t 15)], none⟩,
  ⟨(some 17), .un .not (.t 16), none⟩]
abbrev o_config_pairs_1_7 : List IOper := [⟨(some 18), .bin .add (.t 10) (.k (.c (.int .i64 1))), none⟩,
  ⟨(some 10), .mv (.t 18), none⟩]
def b_config_pairs_1_8 : IC := (.seq (.ops o_config_pairs_1_4) (.seq (.cond (.t 11) .skip (.exit 2)) (.seq (.block 3 (.seq (.ops o_config_pairs_1_5) (.seq (.ops o_config_pairs_1_6) (.cond (.t 17) (.exit 0) .skip)))) (.ops o_config_pairs_1_7))))
abbrev o_config_pairs_1_9 : List IOper := [⟨(some 19), .bin .add (.t 6) (.k (.c (.int .i64 1))), none⟩,
  ⟨(some 6), .mv (.t 19), none⟩]
def b_config_pairs_1_10 : IC := (.seq (.ops o_config_pairs_1_1) (.seq (.cond (.t 7) .skip (.exit 0)) (.seq (.block 1 (.seq (.ops o_config_pairs_1_2) (.seq (.ops o_config_pairs_1_3) (.block 2 (.loop b_config_pairs_1_8))))) (.ops o_config_pairs_1_9))))
def c_config_pairs_1 : IC := (.seq .skip (.seq .skip (.seq (.ops o_config_pairs_1_0) (.block 0 (.loop b_config_pairs_1_10)))))
def i_config_pairs_1 : IFn := ⟨20, c_config_pairs_1, []⟩

-- F 80 slices.siftDownOrdered[int]: bads 0, calls [67, 67]
abbrev o_slices_siftDownOrdered_int_0 : List IOper := [⟨(some 10), .mv (.t 1), none⟩,
  ⟨(some 8), .mv (.t 10), none⟩]
abbrev o_slices_siftDownOrdered_int_1 : List IOper := [⟨(some 11), .mv (.t 8), none⟩,
  ⟨(some 12), .bin .mul (.k (.c (.int .i64 2))) (.t 11), none⟩,
  ⟨(some 13), .bin .add (.t 12) (.k (.c (.int .i64 1))), none⟩,
  ⟨(some 9), .mv (.t 13), none⟩]
abbrev o_slices_siftDownOrdered_int_2 : List IOper := [⟨(some 14), .mv (.t 9), none⟩,
  ⟨(some 15), .mv (.t 2), none⟩,
  ⟨(some 16), .bin .geq (.t 14) (.t 15), none⟩]
abbrev o_slices_siftDownOrdered_int_3 : List IOper := [⟨(some 17), .mv (.t 9), none⟩,
  ⟨(some 18), .bin .add (.t 17) (.k (.c (.int .i64 1))), none⟩,
  ⟨(some 19), .mv (.t 2), none⟩,
  ⟨(some 20), .bin .lss (.t 18) (.t 19), none⟩,
  ⟨(some 21), .mv (.t 20), none⟩,
  ⟨(some 22), .mv (.t 0), some (21, true)⟩,
  ⟨(some 23), .mv (.t 3), some (21, true)⟩,
  ⟨(some 24), .mv (.t 9), some (21, true)⟩,
  ⟨(some 25), .bin .add (.t 23) (.t 24), some (21, true)⟩,
  ⟨(some 26), .iaS 1 (.t 22) (.t 25), some (21, true)⟩,
  ⟨(some 27), .ld none (.t 26), some (21, true)⟩,
  ⟨(some 28), .mv (.t 0), some (21, true)⟩,
  ⟨(some 29), .mv (.t 3), some (21, true)⟩,
  ⟨(some 30), .mv (.t 9), some (21, true)⟩,
  ⟨(some 31), .bin .add (.t 29) (.t 30), some (21, true)⟩,
  ⟨(some 32), .bin .add (.t 31) (.k (.c (.int .i64 1))), some (21, true)⟩,
  ⟨(some 33), .iaS 1 (.t 28) (.t 32), some (21, true)⟩,
  ⟨(some 34), .ld none (.t 33), some (21, true)⟩,
  ⟨(some 35), .call (.k (.c (.fn fn_cmp_Less_int [] []))) [(.t 27), (.t 34)], some (21, true)⟩,
  ⟨(some 36), .pick (.t 21) (.t 35) (.k (.c (.bool false))), none⟩]
abbrev o_slices_siftDownOrdered_int_4 : List IOper := [⟨(some 37), .mv (.t 9), none⟩,
  ⟨(some 38), .bin .add (.t 37) (.k (.c (.int .i64 1))), none⟩,
  ⟨(some 9), .mv (.t 38), none⟩]
abbrev o_slices_siftDownOrdered_int_5 : List IOper := [⟨(some 39), .mv (.t 0), none⟩,
  ⟨(some 40), .mv (.t 3), none⟩,
  ⟨(some 41), .mv (.t 8), none⟩,
  ⟨(some 42), .bin .add (.t 40) (.t 41), none⟩,
  ⟨(some 43), .iaS 1 (.t 39) (.t 42), none⟩,
  ⟨(some 44), .ld none (.t 43), none⟩,
  ⟨(some 45), .mv (.t 0), none⟩,
  ⟨(some 46), .mv (.t 3), none⟩,
  ⟨(some 47), .mv (.t 9), none⟩,
  ⟨(some 48), .bin .add (.t 46) (.t 47), none⟩,
  ⟨(some 49), .iaS 1 (.t 45) (.t 48), none⟩,
  ⟨(some 50), .ld none (.t 49), none⟩,
  ⟨(some 51), .call (.k (.c (.fn fn_cmp_Less_int [] []))) [(.t 44), (.t 50)], none⟩,
  ⟨(some 52), .un .not (.t 51), none⟩]
abbrev o_slices_siftDownOrdered_int_6 : List IOper := [⟨(some 53), .mv (.t 0), none⟩,
  ⟨(some 54), .mv (.t 3), none⟩,
  ⟨(some 55), .mv (.t 8), none⟩,
  ⟨(some 56), .bin .add (.t 54) (.t 55), none⟩,
  ⟨(some 57), .mv (.t 0), none⟩,
  ⟨(some 58), .mv (.t 3), none⟩,
  ⟨(some 59), .mv (.t 9), none⟩,
  ⟨(some 60), .bin .add (.t 58) (.t 59), none⟩,
  ⟨(some 61), .mv (.t 0), none⟩,
  ⟨(some 62), .mv (.t 3), none⟩,
  ⟨(some 63), .mv (.t 9), none⟩,
  ⟨(some 64), .bin .add (.t 62) (.t 63), none⟩,
  ⟨(some 65), .iaS 1 (.t 61) (.t 64), none⟩,
  ⟨(some 66), .ld none (.t 65), none⟩,
  ⟨(some 67), .mv (.t 0), none⟩,
  ⟨(some 68), .mv (.t 3), none⟩,
  ⟨(some 69), .mv (.t 8), none⟩,
  ⟨(some 70), .bin .add (.t 68) (.t 69), none⟩,
  ⟨(some 71), .iaS 1 (.t 67) (.t 70), none⟩,
  ⟨(some 72), .ld none (.t 71), none⟩,
  ⟨(some 73), .iaS 1 (.t 53) (.t 56), none⟩,
  ⟨none, .st 1 (.t 73) (.t 66), none⟩,
  ⟨(some 74), .iaS 1 (.t 57) (.t 60), none⟩,
  ⟨none, .st 1 (.t 74) (.t 72), none⟩]
abbrev o_slices_siftDownOrdered_int_7 : List IOper := [⟨(some 75), .mv (.t 9), none⟩,
  ⟨(some 8), .mv (.t 75), none⟩]
def b_slices_siftDownOrdered_int_8 : IC := (.block 1 (.seq (.ops o_slices_siftDownOrdered_int_1) (.seq (.seq (.ops o_slices_siftDownOrdered_int_2) (.cond (.t 16) (.exit 0) .skip)) (.seq (.seq (.ops o_slices_siftDownOrdered_int_3) (.cond (.t 36) (.ops o_slices_siftDownOrdered_int_4) .skip)) (.seq (.seq (.ops o_slices_siftDownOrdered_int_5) (.cond (.t 52) .ret .skip)) (.seq (.ops o_slices_siftDownOrdered_int_6) (.ops o_slices_siftDownOrdered_int_7)))))))
def c_slices_siftDownOrdered_int : IC := (.seq (.ops o_slices_siftDownOrdered_int_0) (.block 0 (.loop b_slices_siftDownOrdered_int_8)))
def i_slices_siftDownOrdered_int : IFn := ⟨76, c_slices_siftDownOrdered_int, []⟩

-- F 81 slices.nextPowerOfTwo: bads 0, calls [46]
abbrev o_slices_nextPowerOfTwo_0 : List IOper := [⟨(some 2), .mv (.k (.c (.int .u64 0))), none⟩]
abbrev o_slices_nextPowerOfTwo_1 : List IOper := [⟨(some 3), .mv (.t 0), none⟩,
  ⟨(some 4), .cv .u64 (.t 3), none⟩,
  ⟨(some 5), .call (.k (.c (.fn fn_bits_Len [] []))) [(.t 4)], none⟩,
  ⟨(some 6), .bin .shl (.k (.c (.int .u64 1))) (.t 5), none⟩,
  ⟨(some 2), .mv (.t 6), none⟩]
def c_slices_nextPowerOfTwo : IC := (.seq (.ops o_slices_nextPowerOfTwo_0) (.seq (.ops o_slices_nextPowerOfTwo_1) .ret))
def i_slices_nextPowerOfTwo : IFn := ⟨7, c_slices_nextPowerOfTwo, [(2, none)]⟩

-- F 82 (*slices.xorshift).Next: bads 0, calls []
abbrev o_slices_xorshift_Next_0 : List IOper := [⟨(some 2), .mv (.k (.c (.int .u64 0))), none⟩]
abbrev o_slices_xorshift_Next_1 : List IOper := [⟨(some 3), .mv (.t 0), none⟩,
  ⟨(some 4), .nilck (.t 3), none⟩,
  ⟨(some 5), .ld none (.t 4), none⟩,
  ⟨(some 6), .mv (.t 0), none⟩,
  ⟨(some 7), .nilck (.t 6), none⟩,
  ⟨(some 8), .ld none (.t 7), none⟩,
  ⟨(some 9), .bin .shl (.t 8) (.k (.c (.int .u64 13))), none⟩,
  ⟨(some 10), .bin .xor (.t 5) (.t 9), none⟩,
  ⟨(some 11), .nilck (.t 3), none⟩,
  ⟨none, .st 1 (.t 11) (.t 10), none⟩]
abbrev o_slices_xorshift_Next_2 : List IOper := [⟨(some 12), .mv (.t 0), none⟩,
  ⟨(some 13), .nilck (.t 12), none⟩,
  ⟨(some 14), .ld none (.t 13), none⟩,
  ⟨(some 15), .mv (.t 0), none⟩,
  ⟨(some 16), .nilck (.t 15), none⟩,
  ⟨(some 17), .ld none (.t 16), none⟩,
  ⟨(some 18), .bin .shr (.t 17) (.k (.c (.int .u64 7))), none⟩,
  ⟨(some 19), .bin .xor (.t 14) (.t 18), none⟩,
  ⟨(some 20), .nilck (.t 12), none⟩,
  ⟨none, .st 1 (.t 20) (.t 19), none⟩]
abbrev o_slices_xorshift_Next_3 : List IOper := [⟨(some 21), .mv (.t 0), none⟩,
  ⟨(some 22), .nilck (.t 21), none⟩,
  ⟨(some 23), .ld none (.t 22), none⟩,
  ⟨(some 24), .mv (.t 0), none⟩,
  ⟨(some 25), .nilck (.t 24), none⟩,
  ⟨(some 26), .ld none (.t 25), none⟩,
  ⟨(some 27), .bin .shl (.t 26) (.k (.c (.int .u64 17))), none⟩,
  ⟨(some 28), .bin .xor (.t 23) (.t 27), none⟩,
  ⟨(some 29), .nilck (.t 21), none⟩,
  ⟨none, .st 1 (.t 29) (.t 28), none⟩]
abbrev o_slices_xorshift_Next_4 : List IOper := [⟨(some 30), .mv (.t 0), none⟩,
  ⟨(some 31), .nilck (.t 30), none⟩,
  ⟨(some 32), .ld none (.t 31), none⟩,
  ⟨(some 2), .mv (.t 32), none⟩]
def c_slices_xorshift_Next : IC := (.seq (.ops o_slices_xorshift_Next_0) (.seq (.ops o_slices_xorshift_Next_1) (.seq (.ops o_slices_xorshift_Next_2) (.seq (.ops o_slices_xorshift_Next_3) (.seq (.ops o_slices_xorshift_Next_4) .ret)))))
def i_slices_xorshift_Next : IFn := ⟨33, c_slices_xorshift_Next, [(2, none)]⟩

-- F 83 slices.medianAdjacentOrdered[int]: bads 0, calls [84]
abbrev o_slices_medianAdjacentOrdered_int_0 : List IOper := [⟨(some 6), .mv (.k (.c (.int .i64 0))), none⟩]
abbrev o_slices_medianAdjacentOrdered_int_1 : List IOper := [⟨(some 7), .mv (.t 0), none⟩,
  ⟨(some 8), .mv (.t 1), none⟩,
  ⟨(some 9), .bin .sub (.t 8) (.k (.c (.int .i64 1))), none⟩,
  ⟨(some 10), .mv (.t 1), none⟩,
  ⟨(some 11), .mv (.t 1), none⟩,
  ⟨(some 12), .bin .add (.t 11) (.k (.c (.int .i64 1))), none⟩,
  ⟨(some 13), .mv (.t 2), none⟩,
  ⟨(some 14), .call (.k (.c (.fn fn_slices_medianOrdered_int [] []))) [(.t 7), (.t 9), (.t 10), (.t 12), (.t 13)], none⟩,
  ⟨(some 6), .mv (.t 14), none⟩]
def c_slices_medianAdjacentOrdered_int : IC := (.seq (.ops o_slices_medianAdjacentOrdered_int_0) (.seq (.ops o_slices_medianAdjacentOrdered_int_1) .ret))
def i_slices_medianAdjacentOrdered_int : IFn := ⟨15, c_slices_medianAdjacentOrdered_int, [(6, none)]⟩

-- F 84 slices.medianOrdered[int]: bads 0, calls [86, 86, 86]
abbrev o_slices_medianOrdered_int_0 : List IOper := [⟨(some 10), .mv (.k (.c (.int .i64 0))), none⟩]
abbrev o_slices_medianOrdered_int_1 : List IOper := [⟨(some 12), .mv (.t 0), none⟩,
  ⟨(some 13), .mv (.t 1), none⟩,
  ⟨(some 14), .mv (.t 2), none⟩,
  ⟨(some 15), .mv (.t 4), none⟩,
  ⟨(some 16), .call (.k (.c (.fn fn_slices_order2Ordered_int [] []))) [(.t 12), (.t 13), (.t 14), (.t 15)], none⟩,
  ⟨(some 11), .mv (.t 16), none⟩,
  ⟨(some 17), .ext (.t 11) 0, none⟩,
  ⟨(some 18), .ext (.t 11) 1, none⟩,
  ⟨(some 1), .mv (.t 17), none⟩,
  ⟨(some 2), .mv (.t 18), none⟩]
abbrev o_slices_medianOrdered_int_2 : List IOper := [⟨(some 20), .mv (.t 0), none⟩,
  ⟨(some 21), .mv (.t 2), none⟩,
  ⟨(some 22), .mv (.t 3), none⟩,
  ⟨(some 23), .mv (.t 4), none⟩,
  ⟨(some 24), .call (.k (.c (.fn fn_slices_order2Ordered_int [] []))) [(.t 20), (.t 21), (.t 22), (.t 23)], none⟩,
  ⟨(some 19), .mv (.t 24), none⟩,
  ⟨(some 25), .ext (.t 19) 0, none⟩,
  ⟨(some 26), .ext (.t 19) 1, none⟩,
  ⟨(some 2), .mv (.t 25), none⟩,
  ⟨(some 3), .mv (.t 26), none⟩]
abbrev o_slices_medianOrdered_int_3 : List IOper := [⟨(some 28), .mv (.t 0), none⟩,
  ⟨(some 29), .mv (.t 1), none⟩,
  ⟨(some 30), .mv (.t 2), none⟩,
  ⟨(some 31), .mv (.t 4), none⟩,
  ⟨(some 32), .call (.k (.c (.fn fn_slices_order2Ordered_int [] []))) [(.t 28), (.t 29), (.t 30), (.t 31)], none⟩,
  ⟨(some 27), .mv (.t 32), none⟩,
  ⟨(some 33), .ext (.t 27) 0, none⟩,
  ⟨(some 34), .ext (.t 27) 1, none⟩,
  ⟨(some 1), .mv (.t 33), none⟩,
  ⟨(some 2), .mv (.t 34), none⟩]
abbrev o_slices_medianOrdered_int_4 : List IOper := [⟨(some 35), .mv (.t 2), none⟩,
  ⟨(some 10), .mv (.t 35), none⟩]
def c_slices_medianOrdered_int : IC := (.seq (.ops o_slices_medianOrdered_int_0) (.seq (.ops o_slices_medianOrdered_int_1) (.seq (.ops o_slices_medianOrdered_int_2) (.seq (.ops o_slices_medianOrdered_int_3) (.seq (.ops o_slices_medianOrdered_int_4) .ret)))))
def i_slices_medianOrdered_int : IFn := ⟨36, c_slices_medianOrdered_int, [(10, none)]⟩

-- F 85 cmp.isNaN[int]: bads 0, calls []
abbrev o_cmp_isNaN_int_0 : List IOper := [⟨(some 2), .mv (.k (.c (.bool false))), none⟩]
abbrev o_cmp_isNaN_int_1 : List IOper := [⟨(some 3), .mv (.t 0), none⟩,
  ⟨(some 4), .mv (.t 0), none⟩,
  ⟨(some 5), .bin .neq (.t 3) (.t 4), none⟩,
  ⟨(some 2), .mv (.t 5), none⟩]
def c_cmp_isNaN_int : IC := (.seq (.ops o_cmp_isNaN_int_0) (.seq (.ops o_cmp_isNaN_int_1) .ret))
def i_cmp_isNaN_int : IFn := ⟨6, c_cmp_isNaN_int, [(2, none)]⟩

-- F 86 slices.order2Ordered[int]: bads 0, calls [67]
abbrev o_slices_order2Ordered_int_0 : List IOper := [⟨(some 8), .mv (.k (.c (.int .i64 0))), none⟩,
  ⟨(some 9), .mv (.k (.c (.int .i64 0))), none⟩]
abbrev o_slices_order2Ordered_int_1 : List IOper := [⟨(some 10), .mv (.t 0), none⟩,
  ⟨(some 11), .mv (.t 2), none⟩,
  ⟨(some 12), .iaS 1 (.t 10) (.t 11), none⟩,
  ⟨(some 13), .ld none (.t 12), none⟩,
  ⟨(some 14), .mv (.t 0), none⟩,
  ⟨(some 15), .mv (.t 1), none⟩,
  ⟨(some 16), .iaS 1 (.t 14) (.t 15), none⟩,
  ⟨(some 17), .ld none (.t 16), none⟩,
  ⟨(some 18), .call (.k (.c (.fn fn_cmp_Less_int [] []))) [(.t 13), (.t 17)], none⟩]
abbrev o_slices_order2Ordered_int_2 : List IOper := [⟨(some 19), .mv (.t 3), none⟩,
  ⟨(some 20), .nilck (.t 19), none⟩,
  ⟨(some 21), .ld none (.t 20), none⟩,
  ⟨(some 22), .bin .add (.t 21) (.k (.c (.int .i64 1))), none⟩,
  ⟨(some 23), .nilck (.t 19), none⟩,
  ⟨none, .st 1 (.t 23) (.t 22), none⟩]
abbrev o_slices_order2Ordered_int_3 : List IOper := [⟨(some 24), .mv (.t 2), none⟩,
  ⟨(some 25), .mv (.t 1), none⟩,
  ⟨(some 8), .mv (.t 24), none⟩,
  ⟨(some 9), .mv (.t 25), none⟩]
abbrev o_slices_order2Ordered_int_4 : List IOper := [⟨(some 26), .mv (.t 1), none⟩,
  ⟨(some 27), .mv (.t 2), none⟩,
  ⟨(some 8), .mv (.t 26), none⟩,
  ⟨(some 9), .mv (.t 27), none⟩]
def c_slices_order2Ordered_int : IC := (.seq (.ops o_slices_order2Ordered_int_0) (.seq (.seq (.ops o_slices_order2Ordered_int_1) (.cond (.t 18) (.seq (.ops o_slices_order2Ordered_int_2) (.seq (.ops o_slices_order2Ordered_int_3) .ret)) .skip)) (.seq (.ops o_slices_order2Ordered_int_4) .ret)))
def i_slices_order2Ordered_int : IFn := ⟨28, c_slices_order2Ordered_int, [(8, none), (9, none)]⟩

def fs : List (Nat × IFn) := [(fn_rotalaw08_ClockTogether, i_rotalaw08_ClockTogether), (fn_rotalaw08_ClockNear, i_rotalaw08_ClockNear), (fn_rotalaw08_ClockPlays, i_rotalaw08_ClockPlays), (fn_rotalaw08_ClockNames, i_rotalaw08_ClockNames), (fn_rotalaw08_alive, i_rotalaw08_alive), (fn_config_Check, i_config_Check), (fn_config_Precision, i_config_Precision), (fn_clock_New, i_clock_New), (fn_clock_Clock_Drift, i_clock_Clock_Drift), (fn_rotalaw08_at, i_rotalaw08_at), (fn_clock_Clock_Read, i_clock_Clock_Read), (fn_clock_Clock_Offset, i_clock_Clock_Offset), (fn_clock_Clock_Hear, i_clock_Clock_Hear), (fn_rotalaw08_far, i_rotalaw08_far), (fn_clock_Clock_Fits, i_clock_Clock_Fits), (fn_clock_Clock_Average, i_clock_Clock_Average), (fn_clock_Clock_Round, i_clock_Clock_Round), (fn_clock_Clock_Set, i_clock_Clock_Set), (fn_rotaref08_New, i_rotaref08_New), (fn_rotalaw08_step, i_rotalaw08_step), (fn_rotalaw07_Four, i_rotalaw07_Four), (fn_config_fine, i_config_fine), (fn_clock_Clock_none, i_clock_Clock_none), (fn_clock_Clock_move, i_clock_Clock_move), (fn_clock_cut_int, i_clock_cut_int), (fn_clock_Clock_of, i_clock_Clock_of), (fn_slices_Sort_int_int, i_slices_Sort_int_int), (fn_rotaref02_Check, i_rotaref02_Check), (fn_rotaref08_Clock_Set, i_rotaref08_Clock_Set), (fn_rotaref08_Clock_Drift, i_rotaref08_Clock_Drift), (fn_rotaref08_Clock_Read, i_rotaref08_Clock_Read), (fn_rotaref08_Clock_Fits, i_rotaref08_Clock_Fits), (fn_rotaref08_Clock_Hear, i_rotaref08_Clock_Hear), (fn_rotaref08_Clock_Average, i_rotaref08_Clock_Average), (fn_rotaref08_Clock_Round, i_rotaref08_Clock_Round), (fn_config_nodes, i_config_nodes), (fn_config_clocks, i_config_clocks), (fn_config_parts, i_config_parts), (fn_config_windows, i_config_windows), (fn_config_ports, i_config_ports), (fn_config_links, i_config_links), (fn_clock_Clock_of_1, i_clock_Clock_of_1), (fn_slices_pdqsortOrdered_int, i_slices_pdqsortOrdered_int), (fn_bits_Len, i_bits_Len), (fn_rotaref02_nodes, i_rotaref02_nodes), (fn_rotaref02_clock, i_rotaref02_clock), (fn_rotaref02_parts, i_rotaref02_parts), (fn_rotaref02_windows, i_rotaref02_windows), (fn_rotaref02_ports, i_rotaref02_ports), (fn_rotaref02_links, i_rotaref02_links), (fn_rotaref08_Cut, i_rotaref08_Cut), (fn_rotaref08_Is, i_rotaref08_Is), (fn_rotaref08_Middle, i_rotaref08_Middle), (fn_config_within, i_config_within), (fn_slices_Contains_int_int, i_slices_Contains_int_int), (fn_config_pairs, i_config_pairs), (fn_config_meet, i_config_meet), (fn_config_port, i_config_port), (fn_slices_insertionSortOrdered_int, i_slices_insertionSortOrdered_int), (fn_slices_heapSortOrdered_int, i_slices_heapSortOrdered_int), (fn_slices_breakPatternsOrdered_int, i_slices_breakPatternsOrdered_int), (fn_slices_choosePivotOrdered_int, i_slices_choosePivotOrdered_int), (fn_slices_reverseRangeOrdered_int, i_slices_reverseRangeOrdered_int), (fn_slices_partialInsertionSortOrdered_int, i_slices_partialInsertionSortOrdered_int), (fn_cmp_Less_int, i_cmp_Less_int), (fn_slices_partitionEqualOrdered_int, i_slices_partitionEqualOrdered_int), (fn_slices_partitionOrdered_int, i_slices_partitionOrdered_int), (fn_bits_Len32, i_bits_Len32), (fn_bits_Len64, i_bits_Len64), (fn_rotaref02_count, i_rotaref02_count), (fn_rotaref02_Precision, i_rotaref02_Precision), (fn_rotaref02_meet, i_rotaref02_meet), (fn_rotaref02_Alone, i_rotaref02_Alone), (fn_rotaref02_is, i_rotaref02_is), (fn_rotaref08_Half, i_rotaref08_Half), (fn_slices_Index_int_int, i_slices_Index_int_int), (fn_config_pairs_1, i_config_pairs_1), (fn_slices_siftDownOrdered_int, i_slices_siftDownOrdered_int), (fn_slices_nextPowerOfTwo, i_slices_nextPowerOfTwo), (fn_slices_xorshift_Next, i_slices_xorshift_Next), (fn_slices_medianAdjacentOrdered_int, i_slices_medianAdjacentOrdered_int), (fn_slices_medianOrdered_int, i_slices_medianOrdered_int), (fn_cmp_isNaN_int, i_cmp_isNaN_int), (fn_slices_order2Ordered_int, i_slices_order2Ordered_int)]
def F : FuncId → Option Fun := funs fs
theorem e_rotalaw08_ClockTogether : F fn_rotalaw08_ClockTogether = some (.code ⟨183, c_rotalaw08_ClockTogether, [(8, none)]⟩) := by rfl
theorem e_rotalaw08_ClockNear : F fn_rotalaw08_ClockNear = some (.code ⟨126, c_rotalaw08_ClockNear, [(8, none)]⟩) := by rfl
theorem e_rotalaw08_ClockPlays : F fn_rotalaw08_ClockPlays = some (.code ⟨63, c_rotalaw08_ClockPlays, [(4, none)]⟩) := by rfl
theorem e_rotalaw08_ClockNames : F fn_rotalaw08_ClockNames = some (.code ⟨244, c_rotalaw08_ClockNames, [(0, none)]⟩) := by rfl
theorem e_rotalaw08_alive : F fn_rotalaw08_alive = some (.code ⟨51, c_rotalaw08_alive, [(0, none)]⟩) := by rfl
theorem e_config_Check : F fn_config_Check = some (.code ⟨13, c_config_Check, [(2, none)]⟩) := by rfl
theorem e_config_Precision : F fn_config_Precision = some (.code ⟨10, c_config_Precision, [(2, none)]⟩) := by rfl
theorem e_clock_New : F fn_clock_New = some (.code ⟨22, c_clock_New, [(2, none), (3, none)]⟩) := by rfl
theorem e_clock_Clock_Drift : F fn_clock_Clock_Drift = some (.code ⟨20, c_clock_Clock_Drift, [(4, none)]⟩) := by rfl
theorem e_rotalaw08_at : F fn_rotalaw08_at = some (.code ⟨20, c_rotalaw08_at, [(6, none)]⟩) := by rfl
theorem e_clock_Clock_Read : F fn_clock_Clock_Read = some (.code ⟨28, c_clock_Clock_Read, [(6, none)]⟩) := by rfl
theorem e_clock_Clock_Offset : F fn_clock_Clock_Offset = some (.code ⟨9, c_clock_Clock_Offset, [(2, none)]⟩) := by rfl
theorem e_clock_Clock_Hear : F fn_clock_Clock_Hear = some (.code ⟨40, c_clock_Clock_Hear, [(6, none)]⟩) := by rfl
theorem e_rotalaw08_far : F fn_rotalaw08_far = some (.code ⟨14, c_rotalaw08_far, [(4, none)]⟩) := by rfl
theorem e_clock_Clock_Fits : F fn_clock_Clock_Fits = some (.code ⟨25, c_clock_Clock_Fits, [(4, none)]⟩) := by rfl
theorem e_clock_Clock_Average : F fn_clock_Clock_Average = some (.code ⟨45, c_clock_Clock_Average, [(6, none), (7, none)]⟩) := by rfl
theorem e_clock_Clock_Round : F fn_clock_Clock_Round = some (.code ⟨38, c_clock_Clock_Round, [(6, none), (7, none)]⟩) := by rfl
theorem e_clock_Clock_Set : F fn_clock_Clock_Set = some (.code ⟨23, c_clock_Clock_Set, [(4, none)]⟩) := by rfl
theorem e_rotaref08_New : F fn_rotaref08_New = some (.code ⟨19, c_rotaref08_New, [(2, (some (some 15))), (3, none)]⟩) := by rfl
theorem e_rotalaw08_step : F fn_rotalaw08_step = some (.code ⟨149, c_rotalaw08_step, [(6, none)]⟩) := by rfl
theorem e_rotalaw07_Four : F fn_rotalaw07_Four = some (.code ⟨10, c_rotalaw07_Four, [(0, (some (some 12)))]⟩) := by rfl
theorem e_config_fine : F fn_config_fine = some (.code ⟨28, c_config_fine, [(4, none)]⟩) := by rfl
theorem e_clock_Clock_none : F fn_clock_Clock_none = some (.code ⟨12, c_clock_Clock_none, [(2, none)]⟩) := by rfl
theorem e_clock_Clock_move : F fn_clock_Clock_move = some (.code ⟨14, c_clock_Clock_move, []⟩) := by rfl
theorem e_clock_cut_int : F fn_clock_cut_int = some (.code ⟨12, c_clock_cut_int, [(6, none)]⟩) := by rfl
theorem e_clock_Clock_of : F fn_clock_Clock_of = some (.code ⟨8, c_clock_Clock_of, [(6, none)]⟩) := by rfl
theorem e_slices_Sort_int_int : F fn_slices_Sort_int_int = some (.code ⟨11, c_slices_Sort_int_int, []⟩) := by rfl
theorem e_rotaref02_Check : F fn_rotaref02_Check = some (.code ⟨21, c_rotaref02_Check, [(2, none)]⟩) := by rfl
theorem e_rotaref08_Clock_Set : F fn_rotaref08_Clock_Set = some (.code ⟨22, c_rotaref08_Clock_Set, [(4, none)]⟩) := by rfl
theorem e_rotaref08_Clock_Drift : F fn_rotaref08_Clock_Drift = some (.code ⟨20, c_rotaref08_Clock_Drift, []⟩) := by rfl
theorem e_rotaref08_Clock_Read : F fn_rotaref08_Clock_Read = some (.code ⟨22, c_rotaref08_Clock_Read, [(6, none)]⟩) := by rfl
theorem e_rotaref08_Clock_Fits : F fn_rotaref08_Clock_Fits = some (.code ⟨14, c_rotaref08_Clock_Fits, [(4, none)]⟩) := by rfl
theorem e_rotaref08_Clock_Hear : F fn_rotaref08_Clock_Hear = some (.code ⟨37, c_rotaref08_Clock_Hear, [(6, none)]⟩) := by rfl
theorem e_rotaref08_Clock_Average : F fn_rotaref08_Clock_Average = some (.code ⟨56, c_rotaref08_Clock_Average, [(6, none), (7, none)]⟩) := by rfl
theorem e_rotaref08_Clock_Round : F fn_rotaref08_Clock_Round = some (.code ⟨43, c_rotaref08_Clock_Round, [(6, none)]⟩) := by rfl
theorem e_config_nodes : F fn_config_nodes = some (.code ⟨27, c_config_nodes, [(2, none)]⟩) := by rfl
theorem e_config_clocks : F fn_config_clocks = some (.code ⟨40, c_config_clocks, [(2, none)]⟩) := by rfl
theorem e_config_parts : F fn_config_parts = some (.code ⟨73, c_config_parts, [(2, (some none))]⟩) := by rfl
theorem e_config_windows : F fn_config_windows = some (.code ⟨55, c_config_windows, [(2, none)]⟩) := by rfl
theorem e_config_ports : F fn_config_ports = some (.code ⟨76, c_config_ports, [(2, none)]⟩) := by rfl
theorem e_config_links : F fn_config_links = some (.code ⟨195, c_config_links, [(2, (some none))]⟩) := by rfl
theorem e_clock_Clock_of_1 : F fn_clock_Clock_of_1 = some (.code ⟨47, c_clock_Clock_of_1, []⟩) := by rfl
theorem e_slices_pdqsortOrdered_int : F fn_slices_pdqsortOrdered_int = some (.code ⟨134, c_slices_pdqsortOrdered_int, []⟩) := by rfl
theorem e_bits_Len : F fn_bits_Len = some (.code ⟨8, c_bits_Len, [(2, none)]⟩) := by rfl
theorem e_rotaref02_nodes : F fn_rotaref02_nodes = some (.code ⟨31, c_rotaref02_nodes, [(2, none)]⟩) := by rfl
theorem e_rotaref02_clock : F fn_rotaref02_clock = some (.code ⟨70, c_rotaref02_clock, [(2, none)]⟩) := by rfl
theorem e_rotaref02_parts : F fn_rotaref02_parts = some (.code ⟨90, c_rotaref02_parts, [(2, none)]⟩) := by rfl
theorem e_rotaref02_windows : F fn_rotaref02_windows = some (.code ⟨64, c_rotaref02_windows, [(2, none)]⟩) := by rfl
theorem e_rotaref02_ports : F fn_rotaref02_ports = some (.code ⟨43, c_rotaref02_ports, [(2, none)]⟩) := by rfl
theorem e_rotaref02_links : F fn_rotaref02_links = some (.code ⟨227, c_rotaref02_links, [(2, none)]⟩) := by rfl
theorem e_rotaref08_Cut : F fn_rotaref08_Cut = some (.code ⟨16, c_rotaref08_Cut, [(4, none)]⟩) := by rfl
theorem e_rotaref08_Is : F fn_rotaref08_Is = some (.code ⟨16, c_rotaref08_Is, [(4, none)]⟩) := by rfl
theorem e_rotaref08_Middle : F fn_rotaref08_Middle = some (.code ⟨78, c_rotaref08_Middle, [(2, none), (3, none)]⟩) := by rfl
theorem e_config_within : F fn_config_within = some (.code ⟨15, c_config_within, [(6, none)]⟩) := by rfl
theorem e_slices_Contains_int_int : F fn_slices_Contains_int_int = some (.code ⟨9, c_slices_Contains_int_int, [(4, none)]⟩) := by rfl
theorem e_config_pairs : F fn_config_pairs = some (.code ⟨4, c_config_pairs, [(2, none)]⟩) := by rfl
theorem e_config_meet : F fn_config_meet = some (.code ⟨16, c_config_meet, [(8, none)]⟩) := by rfl
theorem e_config_port : F fn_config_port = some (.code ⟨19, c_config_port, [(4, (some (some 6))), (5, none)]⟩) := by rfl
theorem e_slices_insertionSortOrdered_int : F fn_slices_insertionSortOrdered_int = some (.code ⟨49, c_slices_insertionSortOrdered_int, []⟩) := by rfl
theorem e_slices_heapSortOrdered_int : F fn_slices_heapSortOrdered_int = some (.code ⟨56, c_slices_heapSortOrdered_int, []⟩) := by rfl
theorem e_slices_breakPatternsOrdered_int : F fn_slices_breakPatternsOrdered_int = some (.code ⟨65, c_slices_breakPatternsOrdered_int, []⟩) := by rfl
theorem e_slices_choosePivotOrdered_int : F fn_slices_choosePivotOrdered_int = some (.code ⟨57, c_slices_choosePivotOrdered_int, [(6, none), (7, none)]⟩) := by rfl
theorem e_slices_reverseRangeOrdered_int : F fn_slices_reverseRangeOrdered_int = some (.code ⟨32, c_slices_reverseRangeOrdered_int, []⟩) := by rfl
theorem e_slices_partialInsertionSortOrdered_int : F fn_slices_partialInsertionSortOrdered_int = some (.code ⟨133, c_slices_partialInsertionSortOrdered_int, [(6, none)]⟩) := by rfl
theorem e_cmp_Less_int : F fn_cmp_Less_int = some (.code ⟨17, c_cmp_Less_int, [(4, none)]⟩) := by rfl
theorem e_slices_partitionEqualOrdered_int : F fn_slices_partitionEqualOrdered_int = some (.code ⟨84, c_slices_partitionEqualOrdered_int, [(8, none)]⟩) := by rfl
theorem e_slices_partitionOrdered_int : F fn_slices_partitionOrdered_int = some (.code ⟨168, c_slices_partitionOrdered_int, [(8, none), (9, none)]⟩) := by rfl
theorem e_bits_Len32 : F fn_bits_Len32 = some (.code ⟨19, c_bits_Len32, [(2, none)]⟩) := by rfl
theorem e_bits_Len64 : F fn_bits_Len64 = some (.code ⟨25, c_bits_Len64, [(2, none)]⟩) := by rfl
theorem e_rotaref02_count : F fn_rotaref02_count = some (.code ⟨22, c_rotaref02_count, [(4, none)]⟩) := by rfl
theorem e_rotaref02_Precision : F fn_rotaref02_Precision = some (.code ⟨10, c_rotaref02_Precision, [(2, none)]⟩) := by rfl
theorem e_rotaref02_meet : F fn_rotaref02_meet = some (.code ⟨24, c_rotaref02_meet, [(8, none)]⟩) := by rfl
theorem e_rotaref02_Alone : F fn_rotaref02_Alone = some (.code ⟨71, c_rotaref02_Alone, [(2, none)]⟩) := by rfl
theorem e_rotaref02_is : F fn_rotaref02_is = some (.code ⟨14, c_rotaref02_is, [(4, none)]⟩) := by rfl
theorem e_rotaref08_Half : F fn_rotaref08_Half = some (.code ⟨15, c_rotaref08_Half, [(2, none)]⟩) := by rfl
theorem e_slices_Index_int_int : F fn_slices_Index_int_int = some (.code ⟨19, c_slices_Index_int_int, [(4, none)]⟩) := by rfl
theorem e_config_pairs_1 : F fn_config_pairs_1 = some (.code ⟨20, c_config_pairs_1, []⟩) := by rfl
theorem e_slices_siftDownOrdered_int : F fn_slices_siftDownOrdered_int = some (.code ⟨76, c_slices_siftDownOrdered_int, []⟩) := by rfl
theorem e_slices_nextPowerOfTwo : F fn_slices_nextPowerOfTwo = some (.code ⟨7, c_slices_nextPowerOfTwo, [(2, none)]⟩) := by rfl
theorem e_slices_xorshift_Next : F fn_slices_xorshift_Next = some (.code ⟨33, c_slices_xorshift_Next, [(2, none)]⟩) := by rfl
theorem e_slices_medianAdjacentOrdered_int : F fn_slices_medianAdjacentOrdered_int = some (.code ⟨15, c_slices_medianAdjacentOrdered_int, [(6, none)]⟩) := by rfl
theorem e_slices_medianOrdered_int : F fn_slices_medianOrdered_int = some (.code ⟨36, c_slices_medianOrdered_int, [(10, none)]⟩) := by rfl
theorem e_cmp_isNaN_int : F fn_cmp_isNaN_int = some (.code ⟨6, c_cmp_isNaN_int, [(2, none)]⟩) := by rfl
theorem e_slices_order2Ordered_int : F fn_slices_order2Ordered_int = some (.code ⟨28, c_slices_order2Ordered_int, [(8, none), (9, none)]⟩) := by rfl
end Go.Proofs.Yteiiddefimpplaa.AM.F08
