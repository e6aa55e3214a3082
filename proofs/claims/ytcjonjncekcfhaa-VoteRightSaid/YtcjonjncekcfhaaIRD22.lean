/- The functions of these laws as the abstract machine's code, printed by a program of this claim's. -/
import Derived.Test.YtcjonjncekcfhaaA4
set_option linter.unusedVariables false
set_option linter.unusedSimpArgs false
set_option linter.unusedSectionVars false
namespace Go.Proofs.Ytcjonjncekcfhaa.AM.D22
open Go Go.Proofs.Ytcjonjncekcfhaa.AM
abbrev fn_rotalaw22_VoteMiddles : Nat := 3
abbrev fn_rotalaw22_VoteCounts : Nat := 4
abbrev fn_rotalaw22_VoteAgrees : Nat := 5
abbrev fn_rotalaw22_VoteRight : Nat := 6
abbrev fn_rotalaw22_VoteSame : Nat := 7
abbrev fn_rotalaw22_VoteShifts : Nat := 9
abbrev fn_vote_Median : Nat := 10
abbrev fn_vote_Trim : Nat := 11
abbrev fn_rotaref22_Trim : Nat := 12
abbrev fn_vote_Middle : Nat := 13
abbrev fn_rotaref22_Middle : Nat := 14
abbrev fn_rotaref22_At : Nat := 15
abbrev fn_rotaref22_Ints : Nat := 16
abbrev fn_vote_Plural : Nat := 17
abbrev fn_rotaref22_Plural : Nat := 18
abbrev fn_vote_Majority : Nat := 19
abbrev fn_vote_Agree : Nat := 20
abbrev fn_rotaref22_Agree : Nat := 21
abbrev fn_rotalaw22_alive : Nat := 22
abbrev fn_rotalaw22_turned : Nat := 23
abbrev fn_slices_Sorted_int : Nat := 24
abbrev fn_slices_Values_int_int : Nat := 25
abbrev fn_rotaref22_halves : Nat := 26
abbrev fn_rotaref22_count : Nat := 27
abbrev fn_vote_runs : Nat := 28
abbrev fn_vote_Agree_1 : Nat := 29
abbrev fn_vote_apart : Nat := 30
abbrev fn_rotaref22_within : Nat := 31
abbrev fn_slices_Collect_int : Nat := 32
abbrev fn_slices_Sort_int_int : Nat := 33
abbrev fn_slices_Values_int_int_1 : Nat := 34
abbrev fn_vote_runs_1 : Nat := 35
abbrev fn_slices_AppendSeq_int_int : Nat := 36

-- F 3 rota/rotalaw22.VoteMiddles: bads 0, calls [10, 11, 12, 13, 14, 15, 16]
abbrev o_rotalaw22_VoteMiddles_0 : List IOper := [⟨(some 4), .mv (.k (.c (.bool false))), none⟩]
abbrev o_rotalaw22_VoteMiddles_1 : List IOper := [⟨(some 18), .mv (.t 0), none⟩,
  ⟨(some 19), .len false (.t 18), none⟩,
  ⟨(some 20), .bin .gtr (.t 19) (.k (.c (.int .i64 200))), none⟩]
abbrev o_rotalaw22_VoteMiddles_2 : List IOper := [⟨(some 4), .mv (.k (.c (.bool true))), none⟩]
abbrev o_rotalaw22_VoteMiddles_3 : List IOper := [⟨(some 21), .bsl 3 0 [] [], none⟩,
  ⟨(some 22), .mv (.t 0), none⟩,
  ⟨(some 23), .app 3 1 8 (.t 21) (.t 22), none⟩,
  ⟨(some 5), .mv (.t 23), none⟩]
abbrev o_rotalaw22_VoteMiddles_4 : List IOper := [⟨(some 25), .mv (.t 5), none⟩,
  ⟨(some 26), .call (.k (.c (.fn fn_vote_Median [] []))) [(.t 25)], none⟩,
  ⟨(some 24), .mv (.t 26), none⟩,
  ⟨(some 27), .ext (.t 24) 0, none⟩,
  ⟨(some 28), .ext (.t 24) 1, none⟩,
  ⟨(some 6), .mv (.t 27), none⟩,
  ⟨(some 7), .mv (.t 28), none⟩]
abbrev o_rotalaw22_VoteMiddles_5 : List IOper := [⟨(some 30), .mv (.t 5), none⟩,
  ⟨(some 31), .mv (.t 1), none⟩,
  ⟨(some 32), .call (.k (.c (.fn fn_vote_Trim [] []))) [(.t 30), (.t 31)], none⟩,
  ⟨(some 29), .mv (.t 32), none⟩,
  ⟨(some 33), .ext (.t 29) 0, none⟩,
  ⟨(some 34), .ext (.t 29) 1, none⟩,
  ⟨(some 35), .ext (.t 29) 2, none⟩,
  ⟨(some 8), .mv (.t 33), none⟩,
  ⟨(some 9), .mv (.t 34), none⟩,
  ⟨(some 10), .mv (.t 35), none⟩]
abbrev o_rotalaw22_VoteMiddles_6 : List IOper := [⟨(some 37), .mv (.t 0), none⟩,
  ⟨(some 38), .mv (.t 1), none⟩,
  ⟨(some 39), .call (.k (.c (.fn fn_rotaref22_Trim [] []))) [(.t 37), (.t 38)], none⟩,
  ⟨(some 36), .mv (.t 39), none⟩,
  ⟨(some 40), .ext (.t 36) 0, none⟩,
  ⟨(some 41), .ext (.t 36) 1, none⟩,
  ⟨(some 42), .ext (.t 36) 2, none⟩,
  ⟨(some 11), .mv (.t 40), none⟩,
  ⟨(some 12), .mv (.t 41), none⟩,
  ⟨(some 13), .mv (.t 42), none⟩]
abbrev o_rotalaw22_VoteMiddles_7 : List IOper := [⟨(some 44), .mv (.t 5), none⟩,
  ⟨(some 45), .mv (.t 1), none⟩,
  ⟨(some 46), .call (.k (.c (.fn fn_vote_Middle [] []))) [(.t 44), (.t 45)], none⟩,
  ⟨(some 43), .mv (.t 46), none⟩,
  ⟨(some 47), .ext (.t 43) 0, none⟩,
  ⟨(some 48), .ext (.t 43) 1, none⟩,
  ⟨(some 14), .mv (.t 47), none⟩,
  ⟨(some 15), .mv (.t 48), none⟩]
abbrev o_rotalaw22_VoteMiddles_8 : List IOper := [⟨(some 50), .mv (.t 0), none⟩,
  ⟨(some 51), .mv (.t 1), none⟩,
  ⟨(some 52), .call (.k (.c (.fn fn_rotaref22_Middle [] []))) [(.t 50), (.t 51)], none⟩,
  ⟨(some 49), .mv (.t 52), none⟩,
  ⟨(some 53), .ext (.t 49) 0, none⟩,
  ⟨(some 54), .ext (.t 49) 1, none⟩,
  ⟨(some 16), .mv (.t 53), none⟩,
  ⟨(some 17), .mv (.t 54), none⟩]
abbrev o_rotalaw22_VoteMiddles_9 : List IOper := [⟨(some 55), .mv (.t 7), none⟩,
  ⟨(some 56), .mv (.t 0), none⟩,
  ⟨(some 57), .len false (.t 56), none⟩,
  ⟨(some 58), .bin .gtr (.t 57) (.k (.c (.int .i64 0))), none⟩,
  ⟨(some 59), .eq .bool true (.t 55) (.t 58), none⟩,
  ⟨(some 60), .mv (.t 59), none⟩,
  ⟨(some 61), .mv (.t 7), some (60, false)⟩,
  ⟨(some 62), .mv (.t 61), some (60, false)⟩,
  ⟨(some 63), .mv (.t 6), some (62, true)⟩,
  ⟨(some 64), .mv (.t 0), some (62, true)⟩,
  ⟨(some 65), .mv (.t 0), some (62, true)⟩,
  ⟨(some 66), .len false (.t 65), some (62, true)⟩,
  ⟨(some 67), .bin .sub (.t 66) (.k (.c (.int .i64 1))), some (62, true)⟩,
  ⟨(some 68), .bin .quo (.t 67) (.k (.c (.int .i64 2))), some (62, true)⟩,
  ⟨(some 69), .call (.k (.c (.fn fn_rotaref22_At [] []))) [(.t 64), (.t 68)], some (62, true)⟩,
  ⟨(some 70), .bin .neq (.t 63) (.t 69), some (62, true)⟩,
  ⟨(some 71), .pick (.t 62) (.t 70) (.k (.c (.bool false))), some (60, false)⟩,
  ⟨(some 72), .pick (.t 60) (.k (.c (.bool true))) (.t 71), none⟩,
  ⟨(some 73), .mv (.t 72), none⟩,
  ⟨(some 74), .mv (.t 7), some (73, false)⟩,
  ⟨(some 75), .un .not (.t 74), some (73, false)⟩,
  ⟨(some 76), .mv (.t 75), some (73, false)⟩,
  ⟨(some 77), .mv (.t 6), some (76, true)⟩,
  ⟨(some 78), .bin .neq (.t 77) (.k (.c (.int .i64 0))), some (76, true)⟩,
  ⟨(some 79), .pick (.t 76) (.t 78) (.k (.c (.bool false))), some (73, false)⟩,
  ⟨(some 80), .pick (.t 73) (.k (.c (.bool true))) (.t 79), none⟩]
abbrev o_rotalaw22_VoteMiddles_10 : List IOper := [⟨(some 4), .mv (.k (.c (.bool false))), none⟩]
abbrev o_rotalaw22_VoteMiddles_11 : List IOper := [⟨(some 81), .mv (.t 8), none⟩,
  ⟨(some 82), .mv (.t 11), none⟩,
  ⟨(some 83), .bin .eql (.t 81) (.t 82), none⟩,
  ⟨(some 84), .mv (.t 83), none⟩,
  ⟨(some 85), .mv (.t 9), some (84, true)⟩,
  ⟨(some 86), .mv (.t 12), some (84, true)⟩,
  ⟨(some 87), .bin .eql (.t 85) (.t 86), some (84, true)⟩,
  ⟨(some 88), .pick (.t 84) (.t 87) (.k (.c (.bool false))), none⟩,
  ⟨(some 89), .mv (.t 88), none⟩,
  ⟨(some 90), .mv (.t 10), some (89, true)⟩,
  ⟨(some 91), .mv (.t 13), some (89, true)⟩,
  ⟨(some 92), .eq .bool false (.t 90) (.t 91), some (89, true)⟩,
  ⟨(some 93), .pick (.t 89) (.t 92) (.k (.c (.bool false))), none⟩,
  ⟨(some 94), .mv (.t 93), none⟩,
  ⟨(some 95), .mv (.t 14), some (94, true)⟩,
  ⟨(some 96), .mv (.t 16), some (94, true)⟩,
  ⟨(some 97), .bin .eql (.t 95) (.t 96), some (94, true)⟩,
  ⟨(some 98), .pick (.t 94) (.t 97) (.k (.c (.bool false))), none⟩,
  ⟨(some 99), .mv (.t 98), none⟩,
  ⟨(some 100), .mv (.t 15), some (99, true)⟩,
  ⟨(some 101), .mv (.t 17), some (99, true)⟩,
  ⟨(some 102), .eq .bool false (.t 100) (.t 101), some (99, true)⟩,
  ⟨(some 103), .pick (.t 99) (.t 102) (.k (.c (.bool false))), none⟩,
  ⟨(some 104), .mv (.t 103), none⟩,
  ⟨(some 105), .mv (.t 5), some (104, true)⟩,
  ⟨(some 106), .mv (.t 0), some (104, true)⟩,
  ⟨(some 107), .call (.k (.c (.fn fn_rotaref22_Ints [] []))) [(.t 105), (.t 106)], some (104, true)⟩,
  ⟨(some 108), .pick (.t 104) (.t 107) (.k (.c (.bool false))), none⟩,
  ⟨(some 4), .mv (.t 108), none⟩]
def c_rotalaw22_VoteMiddles : IC := (.seq (.ops o_rotalaw22_VoteMiddles_0) (.seq (.seq (.ops o_rotalaw22_VoteMiddles_1) (.cond (.t 20) (.seq (.ops o_rotalaw22_VoteMiddles_2) .ret) .skip)) (.seq (.ops o_rotalaw22_VoteMiddles_3) (.seq (.ops o_rotalaw22_VoteMiddles_4) (.seq (.ops o_rotalaw22_VoteMiddles_5) (.seq (.ops o_rotalaw22_VoteMiddles_6) (.seq (.ops o_rotalaw22_VoteMiddles_7) (.seq (.ops o_rotalaw22_VoteMiddles_8) (.seq (.seq (.ops o_rotalaw22_VoteMiddles_9) (.cond (.t 80) (.seq (.ops o_rotalaw22_VoteMiddles_10) .ret) .skip)) (.seq (.ops o_rotalaw22_VoteMiddles_11) .ret))))))))))
def i_rotalaw22_VoteMiddles : IFn := ⟨109, c_rotalaw22_VoteMiddles, [(4, none)]⟩

-- F 4 rota/rotalaw22.VoteCounts: bads 0, calls [17, 18, 19, 16]
abbrev o_rotalaw22_VoteCounts_0 : List IOper := [⟨(some 2), .mv (.k (.c (.bool false))), none⟩]
abbrev o_rotalaw22_VoteCounts_1 : List IOper := [⟨(some 11), .mv (.t 0), none⟩,
  ⟨(some 12), .len false (.t 11), none⟩,
  ⟨(some 13), .bin .gtr (.t 12) (.k (.c (.int .i64 200))), none⟩]
abbrev o_rotalaw22_VoteCounts_2 : List IOper := [⟨(some 2), .mv (.k (.c (.bool true))), none⟩]
abbrev o_rotalaw22_VoteCounts_3 : List IOper := [⟨(some 14), .bsl 3 0 [] [], none⟩,
  ⟨(some 15), .mv (.t 0), none⟩,
  ⟨(some 16), .app 3 1 8 (.t 14) (.t 15), none⟩,
  ⟨(some 3), .mv (.t 16), none⟩]
abbrev o_rotalaw22_VoteCounts_4 : List IOper := [⟨(some 18), .mv (.t 3), none⟩,
  ⟨(some 19), .call (.k (.c (.fn fn_vote_Plural [] []))) [(.t 18)], none⟩,
  ⟨(some 17), .mv (.t 19), none⟩,
  ⟨(some 20), .ext (.t 17) 0, none⟩,
  ⟨(some 21), .ext (.t 17) 1, none⟩,
  ⟨(some 4), .mv (.t 20), none⟩,
  ⟨(some 5), .mv (.t 21), none⟩]
abbrev o_rotalaw22_VoteCounts_5 : List IOper := [⟨(some 23), .mv (.t 0), none⟩,
  ⟨(some 24), .call (.k (.c (.fn fn_rotaref22_Plural [] []))) [(.t 23)], none⟩,
  ⟨(some 22), .mv (.t 24), none⟩,
  ⟨(some 25), .ext (.t 22) 0, none⟩,
  ⟨(some 26), .ext (.t 22) 1, none⟩,
  ⟨(some 6), .mv (.t 25), none⟩,
  ⟨(some 7), .mv (.t 26), none⟩]
abbrev o_rotalaw22_VoteCounts_6 : List IOper := [⟨(some 28), .mv (.t 3), none⟩,
  ⟨(some 29), .call (.k (.c (.fn fn_vote_Majority [] []))) [(.t 28)], none⟩,
  ⟨(some 27), .mv (.t 29), none⟩,
  ⟨(some 30), .ext (.t 27) 0, none⟩,
  ⟨(some 31), .ext (.t 27) 1, none⟩,
  ⟨(some 8), .mv (.t 30), none⟩,
  ⟨(some 9), .mv (.t 31), none⟩]
abbrev o_rotalaw22_VoteCounts_7 : List IOper := [⟨(some 10), .mv (.k (.c (.int .i64 0))), none⟩]
abbrev o_rotalaw22_VoteCounts_8 : List IOper := [⟨(some 32), .mv (.t 7), none⟩,
  ⟨(some 33), .bin .mul (.k (.c (.int .i64 2))) (.t 32), none⟩,
  ⟨(some 34), .mv (.t 0), none⟩,
  ⟨(some 35), .len false (.t 34), none⟩,
  ⟨(some 36), .bin .gtr (.t 33) (.t 35), none⟩]
abbrev o_rotalaw22_VoteCounts_9 : List IOper := [⟨(some 37), .mv (.t 6), none⟩,
  ⟨(some 10), .mv (.t 37), none⟩]
abbrev o_rotalaw22_VoteCounts_10 : List IOper := [⟨(some 38), .mv (.t 4), none⟩,
  ⟨(some 39), .mv (.t 6), none⟩,
  ⟨(some 40), .bin .eql (.t 38) (.t 39), none⟩,
  ⟨(some 41), .mv (.t 40), none⟩,
  ⟨(some 42), .mv (.t 5), some (41, true)⟩,
  ⟨(some 43), .mv (.t 7), some (41, true)⟩,
  ⟨(some 44), .bin .eql (.t 42) (.t 43), some (41, true)⟩,
  ⟨(some 45), .pick (.t 41) (.t 44) (.k (.c (.bool false))), none⟩,
  ⟨(some 46), .mv (.t 45), none⟩,
  ⟨(some 47), .mv (.t 9), some (46, true)⟩,
  ⟨(some 48), .mv (.t 7), some (46, true)⟩,
  ⟨(some 49), .bin .mul (.k (.c (.int .i64 2))) (.t 48), some (46, true)⟩,
  ⟨(some 50), .mv (.t 0), some (46, true)⟩,
  ⟨(some 51), .len false (.t 50), some (46, true)⟩,
  ⟨(some 52), .bin .gtr (.t 49) (.t 51), some (46, true)⟩,
  ⟨(some 53), .eq .bool false (.t 47) (.t 52), some (46, true)⟩,
  ⟨(some 54), .pick (.t 46) (.t 53) (.k (.c (.bool false))), none⟩,
  ⟨(some 55), .mv (.t 54), none⟩,
  ⟨(some 56), .mv (.t 8), some (55, true)⟩,
  ⟨(some 57), .mv (.t 10), some (55, true)⟩,
  ⟨(some 58), .bin .eql (.t 56) (.t 57), some (55, true)⟩,
  ⟨(some 59), .pick (.t 55) (.t 58) (.k (.c (.bool false))), none⟩,
  ⟨(some 60), .mv (.t 59), none⟩,
  ⟨(some 61), .mv (.t 3), some (60, true)⟩,
  ⟨(some 62), .mv (.t 0), some (60, true)⟩,
  ⟨(some 63), .call (.k (.c (.fn fn_rotaref22_Ints [] []))) [(.t 61), (.t 62)], some (60, true)⟩,
  ⟨(some 64), .pick (.t 60) (.t 63) (.k (.c (.bool false))), none⟩,
  ⟨(some 2), .mv (.t 64), none⟩]
def c_rotalaw22_VoteCounts : IC := (.seq (.ops o_rotalaw22_VoteCounts_0) (.seq (.seq (.ops o_rotalaw22_VoteCounts_1) (.cond (.t 13) (.seq (.ops o_rotalaw22_VoteCounts_2) .ret) .skip)) (.seq (.ops o_rotalaw22_VoteCounts_3) (.seq (.ops o_rotalaw22_VoteCounts_4) (.seq (.ops o_rotalaw22_VoteCounts_5) (.seq (.ops o_rotalaw22_VoteCounts_6) (.seq (.ops o_rotalaw22_VoteCounts_7) (.seq (.seq (.ops o_rotalaw22_VoteCounts_8) (.cond (.t 36) (.ops o_rotalaw22_VoteCounts_9) .skip)) (.seq (.ops o_rotalaw22_VoteCounts_10) .ret)))))))))
def i_rotalaw22_VoteCounts : IFn := ⟨65, c_rotalaw22_VoteCounts, [(2, none)]⟩

-- F 5 rota/rotalaw22.VoteAgrees: bads 0, calls [20, 21, 16, 16]
abbrev o_rotalaw22_VoteAgrees_0 : List IOper := [⟨(some 4), .mv (.k (.c (.bool false))), none⟩]
abbrev o_rotalaw22_VoteAgrees_1 : List IOper := [⟨(some 8), .mv (.t 0), none⟩,
  ⟨(some 9), .len false (.t 8), none⟩,
  ⟨(some 10), .bin .gtr (.t 9) (.k (.c (.int .i64 100))), none⟩]
abbrev o_rotalaw22_VoteAgrees_2 : List IOper := [⟨(some 4), .mv (.k (.c (.bool true))), none⟩]
abbrev o_rotalaw22_VoteAgrees_3 : List IOper := [⟨(some 11), .bsl 3 0 [] [], none⟩,
  ⟨(some 12), .mv (.t 0), none⟩,
  ⟨(some 13), .app 3 1 8 (.t 11) (.t 12), none⟩,
  ⟨(some 5), .mv (.t 13), none⟩]
abbrev o_rotalaw22_VoteAgrees_4 : List IOper := [⟨(some 14), .mv (.t 5), none⟩,
  ⟨(some 15), .mv (.t 1), none⟩,
  ⟨(some 16), .call (.k (.c (.fn fn_vote_Agree [] []))) [(.t 14), (.t 15)], none⟩,
  ⟨(some 6), .mv (.t 16), none⟩]
abbrev o_rotalaw22_VoteAgrees_5 : List IOper := [⟨(some 17), .mv (.t 0), none⟩,
  ⟨(some 18), .mv (.t 1), none⟩,
  ⟨(some 19), .call (.k (.c (.fn fn_rotaref22_Agree [] []))) [(.t 17), (.t 18)], none⟩,
  ⟨(some 7), .mv (.t 19), none⟩]
abbrev o_rotalaw22_VoteAgrees_6 : List IOper := [⟨(some 20), .mv (.t 6), none⟩,
  ⟨(some 21), .mv (.t 7), none⟩,
  ⟨(some 22), .call (.k (.c (.fn fn_rotaref22_Ints [] []))) [(.t 20), (.t 21)], none⟩,
  ⟨(some 23), .mv (.t 22), none⟩,
  ⟨(some 24), .mv (.t 5), some (23, true)⟩,
  ⟨(some 25), .mv (.t 0), some (23, true)⟩,
  ⟨(some 26), .call (.k (.c (.fn fn_rotaref22_Ints [] []))) [(.t 24), (.t 25)], some (23, true)⟩,
  ⟨(some 27), .pick (.t 23) (.t 26) (.k (.c (.bool false))), none⟩,
  ⟨(some 4), .mv (.t 27), none⟩]
def c_rotalaw22_VoteAgrees : IC := (.seq (.ops o_rotalaw22_VoteAgrees_0) (.seq (.seq (.ops o_rotalaw22_VoteAgrees_1) (.cond (.t 10) (.seq (.ops o_rotalaw22_VoteAgrees_2) .ret) .skip)) (.seq (.ops o_rotalaw22_VoteAgrees_3) (.seq (.ops o_rotalaw22_VoteAgrees_4) (.seq (.ops o_rotalaw22_VoteAgrees_5) (.seq (.ops o_rotalaw22_VoteAgrees_6) .ret))))))
def i_rotalaw22_VoteAgrees : IFn := ⟨28, c_rotalaw22_VoteAgrees, [(4, none)]⟩

-- F 6 rota/rotalaw22.VoteRight: bads 0, calls [22, 23, 10, 13]
abbrev o_rotalaw22_VoteRight_0 : List IOper := [⟨(some 6), .mv (.k (.c (.bool false))), none⟩]
abbrev o_rotalaw22_VoteRight_1 : List IOper := [⟨(some 17), .call (.k (.c (.fn fn_rotalaw22_alive [] []))) [], none⟩,
  ⟨(some 7), .mv (.t 17), none⟩]
abbrev o_rotalaw22_VoteRight_2 : List IOper := [⟨(some 18), .mv (.t 0), none⟩,
  ⟨(some 19), .len false (.t 18), none⟩,
  ⟨(some 20), .bin .gtr (.t 19) (.k (.c (.int .i64 100))), none⟩,
  ⟨(some 21), .mv (.t 20), none⟩,
  ⟨(some 22), .mv (.t 0), some (21, false)⟩,
  ⟨(some 23), .len false (.t 22), some (21, false)⟩,
  ⟨(some 24), .bin .eql (.t 23) (.k (.c (.int .i64 0))), some (21, false)⟩,
  ⟨(some 25), .pick (.t 21) (.k (.c (.bool true))) (.t 24), none⟩,
  ⟨(some 26), .mv (.t 25), none⟩,
  ⟨(some 27), .mv (.t 1), some (26, false)⟩,
  ⟨(some 28), .len false (.t 27), some (26, false)⟩,
  ⟨(some 29), .mv (.t 0), some (26, false)⟩,
  ⟨(some 30), .len false (.t 29), some (26, false)⟩,
  ⟨(some 31), .bin .geq (.t 28) (.t 30), some (26, false)⟩,
  ⟨(some 32), .pick (.t 26) (.k (.c (.bool true))) (.t 31), none⟩,
  ⟨(some 33), .mv (.t 32), none⟩,
  ⟨(some 34), .mv (.t 7), some (33, false)⟩,
  ⟨(some 35), .un .not (.t 34), some (33, false)⟩,
  ⟨(some 36), .pick (.t 33) (.k (.c (.bool true))) (.t 35), none⟩]
abbrev o_rotalaw22_VoteRight_3 : List IOper := [⟨(some 37), .mv (.t 7), none⟩,
  ⟨(some 6), .mv (.t 37), none⟩]
abbrev o_rotalaw22_VoteRight_4 : List IOper := [⟨(some 38), .mv (.t 0), none⟩,
  ⟨(some 39), .len false (.t 38), none⟩,
  ⟨(some 40), .bin .sub (.t 39) (.k (.c (.int .i64 1))), none⟩,
  ⟨(some 8), .mv (.t 40), none⟩]
abbrev o_rotalaw22_VoteRight_5 : List IOper := [⟨(some 41), .mv (.t 0), none⟩,
  ⟨(some 42), .iaS 1 (.t 41) (.k (.c (.int .i64 0))), none⟩,
  ⟨(some 43), .ld none (.t 42), none⟩,
  ⟨(some 9), .mv (.t 43), none⟩]
abbrev o_rotalaw22_VoteRight_6 : List IOper := [⟨(some 44), .mv (.t 0), none⟩,
  ⟨(some 45), .iaS 1 (.t 44) (.k (.c (.int .i64 0))), none⟩,
  ⟨(some 46), .ld none (.t 45), none⟩,
  ⟨(some 10), .mv (.t 46), none⟩]
abbrev o_rotalaw22_VoteRight_7 : List IOper := [⟨(some 11), .mv (.k (.c (.int .i64 0))), none⟩]
abbrev o_rotalaw22_VoteRight_8 : List IOper := [⟨(some 47), .mv (.t 11), none⟩,
  ⟨(some 48), .mv (.t 0), none⟩,
  ⟨(some 49), .len false (.t 48), none⟩,
  ⟨(some 50), .bin .lss (.t 47) (.t 49), none⟩]
abbrev o_rotalaw22_VoteRight_9 : List IOper := [⟨(some 53), .mv (.t 9), none⟩,
  ⟨(some 54), .mv (.t 0), none⟩,
  ⟨(some 55), .mv (.t 11), none⟩,
  ⟨(some 56), .iaS 1 (.t 54) (.t 55), none⟩,
  ⟨(some 57), .ld none (.t 56), none⟩,
  ⟨(some 58), .mn (.t 53) [(.t 57)], none⟩,
  ⟨(some 9), .mv (.t 58), none⟩]
abbrev o_rotalaw22_VoteRight_10 : List IOper := [⟨(some 59), .mv (.t 10), none⟩,
  ⟨(some 60), .mv (.t 0), none⟩,
  ⟨(some 61), .mv (.t 11), none⟩,
  ⟨(some 62), .iaS 1 (.t 60) (.t 61), none⟩,
  ⟨(some 63), .ld none (.t 62), none⟩,
  ⟨(some 64), .mx (.t 59) [(.t 63)], none⟩,
  ⟨(some 10), .mv (.t 64), none⟩]
abbrev o_rotalaw22_VoteRight_11 : List IOper := [⟨(some 51), .mv (.t 11), none⟩,
  ⟨(some 52), .bin .add (.t 51) (.k (.c (.int .i64 1))), none⟩,
  ⟨(some 11), .mv (.t 52), none⟩]
def b_rotalaw22_VoteRight_12 : IC := (.seq (.seq (.ops o_rotalaw22_VoteRight_8) (.cond (.t 50) .skip (.exit 0))) (.seq (.block 1 (.seq (.ops o_rotalaw22_VoteRight_9) (.ops o_rotalaw22_VoteRight_10))) (.ops o_rotalaw22_VoteRight_11)))
abbrev o_rotalaw22_VoteRight_13 : List IOper := [⟨(some 12), .mv (.k (.c (.sl none 0 0 false))), none⟩]
abbrev o_rotalaw22_VoteRight_14 : List IOper := [⟨(some 65), .mv (.t 12), none⟩,
  ⟨(some 66), .mv (.t 0), none⟩,
  ⟨(some 67), .app 3 1 8 (.t 65) (.t 66), none⟩,
  ⟨(some 12), .mv (.t 67), none⟩]
abbrev o_rotalaw22_VoteRight_15 : List IOper := [⟨(some 68), .mv (.t 12), none⟩,
  ⟨(some 69), .mv (.t 1), none⟩,
  ⟨(some 70), .app 3 1 8 (.t 68) (.t 69), none⟩,
  ⟨(some 12), .mv (.t 70), none⟩]
abbrev o_rotalaw22_VoteRight_16 : List IOper := [⟨(some 71), .mv (.t 12), none⟩,
  ⟨(some 72), .len false (.t 71), none⟩,
  ⟨(some 73), .mv (.t 8), none⟩,
  ⟨(some 74), .bin .mul (.k (.c (.int .i64 2))) (.t 73), none⟩,
  ⟨(some 75), .bin .add (.t 74) (.k (.c (.int .i64 1))), none⟩,
  ⟨(some 76), .bin .lss (.t 72) (.t 75), none⟩]
abbrev o_rotalaw22_VoteRight_17 : List IOper := [⟨(some 77), .mv (.t 12), none⟩,
  ⟨(some 78), .mv (.t 0), none⟩,
  ⟨(some 79), .iaS 1 (.t 78) (.k (.c (.int .i64 0))), none⟩,
  ⟨(some 80), .ld none (.t 79), none⟩,
  ⟨(some 81), .bsl 3 1 [(.int .i64 0)] [(0, 1, (.t 80))], none⟩,
  ⟨(some 82), .app 3 1 8 (.t 77) (.t 81), none⟩,
  ⟨(some 12), .mv (.t 82), none⟩]
def b_rotalaw22_VoteRight_18 : IC := (.seq (.seq (.ops o_rotalaw22_VoteRight_16) (.cond (.t 76) .skip (.exit 2))) (.block 3 (.ops o_rotalaw22_VoteRight_17)))
abbrev o_rotalaw22_VoteRight_19 : List IOper := [⟨(some 83), .mv (.t 12), none⟩,
  ⟨(some 84), .mv (.t 2), none⟩,
  ⟨(some 85), .call (.k (.c (.fn fn_rotalaw22_turned [] []))) [(.t 83), (.t 84)], none⟩,
  ⟨(some 12), .mv (.t 85), none⟩]
abbrev o_rotalaw22_VoteRight_20 : List IOper := [⟨(some 87), .mv (.t 12), none⟩,
  ⟨(some 88), .call (.k (.c (.fn fn_vote_Median [] []))) [(.t 87)], none⟩,
  ⟨(some 86), .mv (.t 88), none⟩,
  ⟨(some 89), .ext (.t 86) 0, none⟩,
  ⟨(some 90), .ext (.t 86) 1, none⟩,
  ⟨(some 13), .mv (.t 89), none⟩,
  ⟨(some 14), .mv (.t 90), none⟩]
abbrev o_rotalaw22_VoteRight_21 : List IOper := [⟨(some 92), .mv (.t 12), none⟩,
  ⟨(some 93), .mv (.t 8), none⟩,
  ⟨(some 94), .call (.k (.c (.fn fn_vote_Middle [] []))) [(.t 92), (.t 93)], none⟩,
  ⟨(some 91), .mv (.t 94), none⟩,
  ⟨(some 95), .ext (.t 91) 0, none⟩,
  ⟨(some 96), .ext (.t 91) 1, none⟩,
  ⟨(some 15), .mv (.t 95), none⟩,
  ⟨(some 16), .mv (.t 96), none⟩]
abbrev o_rotalaw22_VoteRight_22 : List IOper := [⟨(some 97), .mv (.t 7), none⟩,
  ⟨(some 98), .mv (.t 97), none⟩,
  ⟨(some 99), .mv (.t 14), some (98, true)⟩,
  ⟨(some 100), .pick (.t 98) (.t 99) (.k (.c (.bool false))), none⟩,
  ⟨(some 101), .mv (.t 100), none⟩,
  ⟨(some 102), .mv (.t 16), some (101, true)⟩,
  ⟨(some 103), .pick (.t 101) (.t 102) (.k (.c (.bool false))), none⟩,
  ⟨(some 104), .mv (.t 103), none⟩,
  ⟨(some 105), .mv (.t 13), some (104, true)⟩,
  ⟨(some 106), .mv (.t 9), some (104, true)⟩,
  ⟨(some 107), .bin .geq (.t 105) (.t 106), some (104, true)⟩,
  ⟨(some 108), .pick (.t 104) (.t 107) (.k (.c (.bool false))), none⟩,
  ⟨(some 109), .mv (.t 108), none⟩,
  ⟨(some 110), .mv (.t 13), some (109, true)⟩,
  ⟨(some 111), .mv (.t 10), some (109, true)⟩,
  ⟨(some 112), .bin .leq (.t 110) (.t 111), some (109, true)⟩,
  ⟨(some 113), .pick (.t 109) (.t 112) (.k (.c (.bool false))), none⟩,
  ⟨(some 114), .mv (.t 113), none⟩,
  ⟨(some 115), .mv (.t 15), some (114, true)⟩,
  ⟨(some 116), .mv (.t 9), some (114, true)⟩,
  ⟨(some 117), .bin .geq (.t 115) (.t 116), some (114, true)⟩,
  ⟨(some 118), .pick (.t 114) (.t 117) (.k (.c (.bool false))), none⟩,
  ⟨(some 119), .mv (.t 118), none⟩,
  ⟨(some 120), .mv (.t 15), some (119, true)⟩,
  ⟨(some 121), .mv (.t 10), some (119, true)⟩,
  ⟨(some 122), .bin .leq (.t 120) (.t 121), some (119, true)⟩,
  ⟨(some 123), .pick (.t 119) (.t 122) (.k (.c (.bool false))), none⟩,
  ⟨(some 6), .mv (.t 123), none⟩]
def c_rotalaw22_VoteRight : IC := (.seq (.ops o_rotalaw22_VoteRight_0) (.seq (.ops o_rotalaw22_VoteRight_1) (.seq (.seq (.ops o_rotalaw22_VoteRight_2) (.cond (.t 36) (.seq (.ops o_rotalaw22_VoteRight_3) .ret) .skip)) (.seq (.ops o_rotalaw22_VoteRight_4) (.seq (.ops o_rotalaw22_VoteRight_5) (.seq (.ops o_rotalaw22_VoteRight_6) (.seq (.seq (.ops o_rotalaw22_VoteRight_7) (.block 0 (.loop b_rotalaw22_VoteRight_12))) (.seq (.ops o_rotalaw22_VoteRight_13) (.seq (.ops o_rotalaw22_VoteRight_14) (.seq (.ops o_rotalaw22_VoteRight_15) (.seq (.block 2 (.loop b_rotalaw22_VoteRight_18)) (.seq (.ops o_rotalaw22_VoteRight_19) (.seq (.ops o_rotalaw22_VoteRight_20) (.seq (.ops o_rotalaw22_VoteRight_21) (.seq (.ops o_rotalaw22_VoteRight_22) .ret)))))))))))))))
def i_rotalaw22_VoteRight : IFn := ⟨124, c_rotalaw22_VoteRight, [(6, none)]⟩

-- F 7 rota/rotalaw22.VoteSame: bads 0, calls [22, 23, 17, 17, 19, 19, 10, 10, 20, 20]
abbrev o_rotalaw22_VoteSame_0 : List IOper := [⟨(some 6), .mv (.k (.c (.bool false))), none⟩]
abbrev o_rotalaw22_VoteSame_1 : List IOper := [⟨(some 23), .call (.k (.c (.fn fn_rotalaw22_alive [] []))) [], none⟩,
  ⟨(some 7), .mv (.t 23), none⟩]
abbrev o_rotalaw22_VoteSame_2 : List IOper := [⟨(some 24), .mv (.t 0), none⟩,
  ⟨(some 25), .len false (.t 24), none⟩,
  ⟨(some 26), .bin .gtr (.t 25) (.k (.c (.int .i64 200))), none⟩,
  ⟨(some 27), .mv (.t 26), none⟩,
  ⟨(some 28), .mv (.t 0), some (27, false)⟩,
  ⟨(some 29), .len false (.t 28), some (27, false)⟩,
  ⟨(some 30), .bin .eql (.t 29) (.k (.c (.int .i64 0))), some (27, false)⟩,
  ⟨(some 31), .pick (.t 27) (.k (.c (.bool true))) (.t 30), none⟩,
  ⟨(some 32), .mv (.t 31), none⟩,
  ⟨(some 33), .mv (.t 7), some (32, false)⟩,
  ⟨(some 34), .un .not (.t 33), some (32, false)⟩,
  ⟨(some 35), .pick (.t 32) (.k (.c (.bool true))) (.t 34), none⟩]
abbrev o_rotalaw22_VoteSame_3 : List IOper := [⟨(some 36), .mv (.t 7), none⟩,
  ⟨(some 6), .mv (.t 36), none⟩]
abbrev o_rotalaw22_VoteSame_4 : List IOper := [⟨(some 37), .mv (.t 0), none⟩,
  ⟨(some 38), .mv (.t 1), none⟩,
  ⟨(some 39), .call (.k (.c (.fn fn_rotalaw22_turned [] []))) [(.t 37), (.t 38)], none⟩,
  ⟨(some 8), .mv (.t 39), none⟩]
abbrev o_rotalaw22_VoteSame_5 : List IOper := [⟨(some 41), .mv (.t 0), none⟩,
  ⟨(some 42), .call (.k (.c (.fn fn_vote_Plural [] []))) [(.t 41)], none⟩,
  ⟨(some 40), .mv (.t 42), none⟩,
  ⟨(some 43), .ext (.t 40) 0, none⟩,
  ⟨(some 44), .ext (.t 40) 1, none⟩,
  ⟨(some 9), .mv (.t 43), none⟩,
  ⟨(some 10), .mv (.t 44), none⟩]
abbrev o_rotalaw22_VoteSame_6 : List IOper := [⟨(some 46), .mv (.t 8), none⟩,
  ⟨(some 47), .call (.k (.c (.fn fn_vote_Plural [] []))) [(.t 46)], none⟩,
  ⟨(some 45), .mv (.t 47), none⟩,
  ⟨(some 48), .ext (.t 45) 0, none⟩,
  ⟨(some 49), .ext (.t 45) 1, none⟩,
  ⟨(some 11), .mv (.t 48), none⟩,
  ⟨(some 12), .mv (.t 49), none⟩]
abbrev o_rotalaw22_VoteSame_7 : List IOper := [⟨(some 51), .mv (.t 0), none⟩,
  ⟨(some 52), .call (.k (.c (.fn fn_vote_Majority [] []))) [(.t 51)], none⟩,
  ⟨(some 50), .mv (.t 52), none⟩,
  ⟨(some 53), .ext (.t 50) 0, none⟩,
  ⟨(some 54), .ext (.t 50) 1, none⟩,
  ⟨(some 13), .mv (.t 53), none⟩,
  ⟨(some 14), .mv (.t 54), none⟩]
abbrev o_rotalaw22_VoteSame_8 : List IOper := [⟨(some 56), .mv (.t 8), none⟩,
  ⟨(some 57), .call (.k (.c (.fn fn_vote_Majority [] []))) [(.t 56)], none⟩,
  ⟨(some 55), .mv (.t 57), none⟩,
  ⟨(some 58), .ext (.t 55) 0, none⟩,
  ⟨(some 59), .ext (.t 55) 1, none⟩,
  ⟨(some 15), .mv (.t 58), none⟩,
  ⟨(some 16), .mv (.t 59), none⟩]
abbrev o_rotalaw22_VoteSame_9 : List IOper := [⟨(some 61), .mv (.t 0), none⟩,
  ⟨(some 62), .call (.k (.c (.fn fn_vote_Median [] []))) [(.t 61)], none⟩,
  ⟨(some 60), .mv (.t 62), none⟩,
  ⟨(some 63), .ext (.t 60) 0, none⟩,
  ⟨(some 64), .ext (.t 60) 1, none⟩,
  ⟨(some 17), .mv (.t 63), none⟩,
  ⟨(some 18), .mv (.t 64), none⟩]
abbrev o_rotalaw22_VoteSame_10 : List IOper := [⟨(some 66), .mv (.t 8), none⟩,
  ⟨(some 67), .call (.k (.c (.fn fn_vote_Median [] []))) [(.t 66)], none⟩,
  ⟨(some 65), .mv (.t 67), none⟩,
  ⟨(some 68), .ext (.t 65) 0, none⟩,
  ⟨(some 69), .ext (.t 65) 1, none⟩,
  ⟨(some 19), .mv (.t 68), none⟩,
  ⟨(some 20), .mv (.t 69), none⟩]
abbrev o_rotalaw22_VoteSame_11 : List IOper := [⟨(some 70), .mv (.t 0), none⟩,
  ⟨(some 71), .mv (.t 2), none⟩,
  ⟨(some 72), .call (.k (.c (.fn fn_vote_Agree [] []))) [(.t 70), (.t 71)], none⟩,
  ⟨(some 21), .mv (.t 72), none⟩]
abbrev o_rotalaw22_VoteSame_12 : List IOper := [⟨(some 73), .mv (.t 8), none⟩,
  ⟨(some 74), .mv (.t 2), none⟩,
  ⟨(some 75), .call (.k (.c (.fn fn_vote_Agree [] []))) [(.t 73), (.t 74)], none⟩,
  ⟨(some 22), .mv (.t 75), none⟩]
abbrev o_rotalaw22_VoteSame_13 : List IOper := [⟨(some 76), .mv (.t 9), none⟩,
  ⟨(some 77), .mv (.t 11), none⟩,
  ⟨(some 78), .bin .neq (.t 76) (.t 77), none⟩,
  ⟨(some 79), .mv (.t 78), none⟩,
  ⟨(some 80), .mv (.t 10), some (79, false)⟩,
  ⟨(some 81), .mv (.t 12), some (79, false)⟩,
  ⟨(some 82), .bin .neq (.t 80) (.t 81), some (79, false)⟩,
  ⟨(some 83), .pick (.t 79) (.k (.c (.bool true))) (.t 82), none⟩,
  ⟨(some 84), .mv (.t 83), none⟩,
  ⟨(some 85), .mv (.t 13), some (84, false)⟩,
  ⟨(some 86), .mv (.t 15), some (84, false)⟩,
  ⟨(some 87), .bin .neq (.t 85) (.t 86), some (84, false)⟩,
  ⟨(some 88), .pick (.t 84) (.k (.c (.bool true))) (.t 87), none⟩,
  ⟨(some 89), .mv (.t 88), none⟩,
  ⟨(some 90), .mv (.t 14), some (89, false)⟩,
  ⟨(some 91), .mv (.t 16), some (89, false)⟩,
  ⟨(some 92), .eq .bool true (.t 90) (.t 91), some (89, false)⟩,
  ⟨(some 93), .pick (.t 89) (.k (.c (.bool true))) (.t 92), none⟩,
  ⟨(some 94), .mv (.t 93), none⟩,
  ⟨(some 95), .mv (.t 17), some (94, false)⟩,
  ⟨(some 96), .mv (.t 19), some (94, false)⟩,
  ⟨(some 97), .bin .neq (.t 95) (.t 96), some (94, false)⟩,
  ⟨(some 98), .pick (.t 94) (.k (.c (.bool true))) (.t 97), none⟩,
  ⟨(some 99), .mv (.t 98), none⟩,
  ⟨(some 100), .mv (.t 21), some (99, false)⟩,
  ⟨(some 101), .len false (.t 100), some (99, false)⟩,
  ⟨(some 102), .mv (.t 22), some (99, false)⟩,
  ⟨(some 103), .len false (.t 102), some (99, false)⟩,
  ⟨(some 104), .bin .neq (.t 101) (.t 103), some (99, false)⟩,
  ⟨(some 105), .pick (.t 99) (.k (.c (.bool true))) (.t 104), none⟩]
abbrev o_rotalaw22_VoteSame_14 : List IOper := [⟨(some 6), .mv (.k (.c (.bool false))), none⟩]
abbrev o_rotalaw22_VoteSame_15 : List IOper := [⟨(some 106), .mv (.t 7), none⟩,
  ⟨(some 107), .mv (.t 106), none⟩,
  ⟨(some 108), .mv (.t 14), some (107, true)⟩,
  ⟨(some 109), .un .not (.t 108), some (107, true)⟩,
  ⟨(some 110), .mv (.t 109), some (107, true)⟩,
  ⟨(some 111), .mv (.t 13), some (110, false)⟩,
  ⟨(some 112), .mv (.t 17), some (110, false)⟩,
  ⟨(some 113), .bin .eql (.t 111) (.t 112), some (110, false)⟩,
  ⟨(some 114), .mv (.t 113), some (110, false)⟩,
  ⟨(some 115), .mv (.t 13), some (114, true)⟩,
  ⟨(some 116), .mv (.t 9), some (114, true)⟩,
  ⟨(some 117), .bin .eql (.t 115) (.t 116), some (114, true)⟩,
  ⟨(some 118), .pick (.t 114) (.t 117) (.k (.c (.bool false))), some (110, false)⟩,
  ⟨(some 119), .pick (.t 110) (.k (.c (.bool true))) (.t 118), some (107, true)⟩,
  ⟨(some 120), .pick (.t 107) (.t 119) (.k (.c (.bool false))), none⟩,
  ⟨(some 6), .mv (.t 120), none⟩]
def c_rotalaw22_VoteSame : IC := (.seq (.ops o_rotalaw22_VoteSame_0) (.seq (.ops o_rotalaw22_VoteSame_1) (.seq (.seq (.ops o_rotalaw22_VoteSame_2) (.cond (.t 35) (.seq (.ops o_rotalaw22_VoteSame_3) .ret) .skip)) (.seq (.ops o_rotalaw22_VoteSame_4) (.seq (.ops o_rotalaw22_VoteSame_5) (.seq (.ops o_rotalaw22_VoteSame_6) (.seq (.ops o_rotalaw22_VoteSame_7) (.seq (.ops o_rotalaw22_VoteSame_8) (.seq (.ops o_rotalaw22_VoteSame_9) (.seq (.ops o_rotalaw22_VoteSame_10) (.seq (.ops o_rotalaw22_VoteSame_11) (.seq (.ops o_rotalaw22_VoteSame_12) (.seq (.seq (.ops o_rotalaw22_VoteSame_13) (.cond (.t 105) (.seq (.ops o_rotalaw22_VoteSame_14) .ret) .skip)) (.seq (.ops o_rotalaw22_VoteSame_15) .ret))))))))))))))
def i_rotalaw22_VoteSame : IFn := ⟨121, c_rotalaw22_VoteSame, [(6, none)]⟩

-- F 9 rota/rotalaw22.VoteShifts: bads 0, calls [22, 10, 10, 13, 13, 17, 17, 20, 20]
abbrev o_rotalaw22_VoteShifts_0 : List IOper := [⟨(some 8), .mv (.k (.c (.bool false))), none⟩]
abbrev o_rotalaw22_VoteShifts_1 : List IOper := [⟨(some 27), .call (.k (.c (.fn fn_rotalaw22_alive [] []))) [], none⟩,
  ⟨(some 9), .mv (.t 27), none⟩]
abbrev o_rotalaw22_VoteShifts_2 : List IOper := [⟨(some 28), .mv (.t 0), none⟩,
  ⟨(some 29), .len false (.t 28), none⟩,
  ⟨(some 30), .bin .gtr (.t 29) (.k (.c (.int .i64 100))), none⟩,
  ⟨(some 31), .mv (.t 30), none⟩,
  ⟨(some 32), .mv (.t 0), some (31, false)⟩,
  ⟨(some 33), .len false (.t 32), some (31, false)⟩,
  ⟨(some 34), .bin .eql (.t 33) (.k (.c (.int .i64 0))), some (31, false)⟩,
  ⟨(some 35), .pick (.t 31) (.k (.c (.bool true))) (.t 34), none⟩,
  ⟨(some 36), .mv (.t 35), none⟩,
  ⟨(some 37), .mv (.t 9), some (36, false)⟩,
  ⟨(some 38), .un .not (.t 37), some (36, false)⟩,
  ⟨(some 39), .pick (.t 36) (.k (.c (.bool true))) (.t 38), none⟩]
abbrev o_rotalaw22_VoteShifts_3 : List IOper := [⟨(some 40), .mv (.t 9), none⟩,
  ⟨(some 8), .mv (.t 40), none⟩]
abbrev o_rotalaw22_VoteShifts_4 : List IOper := [⟨(some 10), .mv (.k (.c (.sl none 0 0 false))), none⟩]
abbrev o_rotalaw22_VoteShifts_5 : List IOper := [⟨(some 11), .mv (.k (.c (.int .i64 0))), none⟩]
abbrev o_rotalaw22_VoteShifts_6 : List IOper := [⟨(some 41), .mv (.t 11), none⟩,
  ⟨(some 42), .mv (.t 0), none⟩,
  ⟨(some 43), .len false (.t 42), none⟩,
  ⟨(some 44), .bin .lss (.t 41) (.t 43), none⟩]
abbrev o_rotalaw22_VoteShifts_7 : List IOper := [⟨(some 47), .mv (.t 0), none⟩,
  ⟨(some 48), .mv (.t 11), none⟩,
  ⟨(some 49), .iaS 1 (.t 47) (.t 48), none⟩,
  ⟨(some 50), .ld none (.t 49), none⟩,
  ⟨(some 51), .bin .gtr (.t 50) (.k (.c (.int .i64 1099511627776))), none⟩,
  ⟨(some 52), .mv (.t 51), none⟩,
  ⟨(some 53), .mv (.t 0), some (52, false)⟩,
  ⟨(some 54), .mv (.t 11), some (52, false)⟩,
  ⟨(some 55), .iaS 1 (.t 53) (.t 54), some (52, false)⟩,
  ⟨(some 56), .ld none (.t 55), some (52, false)⟩,
  ⟨(some 57), .bin .lss (.t 56) (.k (.c (.int .i64 (-1099511627776)))), some (52, false)⟩,
  ⟨(some 58), .pick (.t 52) (.k (.c (.bool true))) (.t 57), none⟩]
abbrev o_rotalaw22_VoteShifts_8 : List IOper := [⟨(some 59), .mv (.t 9), none⟩,
  ⟨(some 8), .mv (.t 59), none⟩]
abbrev o_rotalaw22_VoteShifts_9 : List IOper := [⟨(some 60), .mv (.t 10), none⟩,
  ⟨(some 61), .mv (.t 0), none⟩,
  ⟨(some 62), .mv (.t 11), none⟩,
  ⟨(some 63), .iaS 1 (.t 61) (.t 62), none⟩,
  ⟨(some 64), .ld none (.t 63), none⟩,
  ⟨(some 65), .mv (.t 1), none⟩,
  ⟨(some 66), .cv .i64 (.t 65), none⟩,
  ⟨(some 67), .bin .add (.t 64) (.t 66), none⟩,
  ⟨(some 68), .bsl 3 1 [(.int .i64 0)] [(0, 1, (.t 67))], none⟩,
  ⟨(some 69), .app 3 1 8 (.t 60) (.t 68), none⟩,
  ⟨(some 10), .mv (.t 69), none⟩]
abbrev o_rotalaw22_VoteShifts_10 : List IOper := [⟨(some 45), .mv (.t 11), none⟩,
  ⟨(some 46), .bin .add (.t 45) (.k (.c (.int .i64 1))), none⟩,
  ⟨(some 11), .mv (.t 46), none⟩]
def b_rotalaw22_VoteShifts_11 : IC := (.seq (.seq (.ops o_rotalaw22_VoteShifts_6) (.cond (.t 44) .skip (.exit 0))) (.seq (.block 1 (.seq (.seq (.ops o_rotalaw22_VoteShifts_7) (.cond (.t 58) (.seq (.ops o_rotalaw22_VoteShifts_8) .ret) .skip)) (.ops o_rotalaw22_VoteShifts_9))) (.ops o_rotalaw22_VoteShifts_10)))
abbrev o_rotalaw22_VoteShifts_12 : List IOper := [⟨(some 71), .mv (.t 0), none⟩,
  ⟨(some 72), .call (.k (.c (.fn fn_vote_Median [] []))) [(.t 71)], none⟩,
  ⟨(some 70), .mv (.t 72), none⟩,
  ⟨(some 73), .ext (.t 70) 0, none⟩,
  ⟨(some 74), .ext (.t 70) 1, none⟩,
  ⟨(some 12), .mv (.t 73), none⟩,
  ⟨(some 13), .mv (.t 74), none⟩]
abbrev o_rotalaw22_VoteShifts_13 : List IOper := [⟨(some 76), .mv (.t 10), none⟩,
  ⟨(some 77), .call (.k (.c (.fn fn_vote_Median [] []))) [(.t 76)], none⟩,
  ⟨(some 75), .mv (.t 77), none⟩,
  ⟨(some 78), .ext (.t 75) 0, none⟩,
  ⟨(some 79), .ext (.t 75) 1, none⟩,
  ⟨(some 14), .mv (.t 78), none⟩,
  ⟨(some 15), .mv (.t 79), none⟩]
abbrev o_rotalaw22_VoteShifts_14 : List IOper := [⟨(some 81), .mv (.t 0), none⟩,
  ⟨(some 82), .mv (.t 2), none⟩,
  ⟨(some 83), .call (.k (.c (.fn fn_vote_Middle [] []))) [(.t 81), (.t 82)], none⟩,
  ⟨(some 80), .mv (.t 83), none⟩,
  ⟨(some 84), .ext (.t 80) 0, none⟩,
  ⟨(some 85), .ext (.t 80) 1, none⟩,
  ⟨(some 16), .mv (.t 84), none⟩,
  ⟨(some 17), .mv (.t 85), none⟩]
abbrev o_rotalaw22_VoteShifts_15 : List IOper := [⟨(some 87), .mv (.t 10), none⟩,
  ⟨(some 88), .mv (.t 2), none⟩,
  ⟨(some 89), .call (.k (.c (.fn fn_vote_Middle [] []))) [(.t 87), (.t 88)], none⟩,
  ⟨(some 86), .mv (.t 89), none⟩,
  ⟨(some 90), .ext (.t 86) 0, none⟩,
  ⟨(some 91), .ext (.t 86) 1, none⟩,
  ⟨(some 18), .mv (.t 90), none⟩,
  ⟨(some 19), .mv (.t 91), none⟩]
abbrev o_rotalaw22_VoteShifts_16 : List IOper := [⟨(some 93), .mv (.t 0), none⟩,
  ⟨(some 94), .call (.k (.c (.fn fn_vote_Plural [] []))) [(.t 93)], none⟩,
  ⟨(some 92), .mv (.t 94), none⟩,
  ⟨(some 95), .ext (.t 92) 0, none⟩,
  ⟨(some 96), .ext (.t 92) 1, none⟩,
  ⟨(some 20), .mv (.t 95), none⟩,
  ⟨(some 21), .mv (.t 96), none⟩]
abbrev o_rotalaw22_VoteShifts_17 : List IOper := [⟨(some 98), .mv (.t 10), none⟩,
  ⟨(some 99), .call (.k (.c (.fn fn_vote_Plural [] []))) [(.t 98)], none⟩,
  ⟨(some 97), .mv (.t 99), none⟩,
  ⟨(some 100), .ext (.t 97) 0, none⟩,
  ⟨(some 101), .ext (.t 97) 1, none⟩,
  ⟨(some 22), .mv (.t 100), none⟩,
  ⟨(some 23), .mv (.t 101), none⟩]
abbrev o_rotalaw22_VoteShifts_18 : List IOper := [⟨(some 102), .mv (.t 0), none⟩,
  ⟨(some 103), .mv (.t 3), none⟩,
  ⟨(some 104), .call (.k (.c (.fn fn_vote_Agree [] []))) [(.t 102), (.t 103)], none⟩,
  ⟨(some 24), .mv (.t 104), none⟩]
abbrev o_rotalaw22_VoteShifts_19 : List IOper := [⟨(some 105), .mv (.t 10), none⟩,
  ⟨(some 106), .mv (.t 3), none⟩,
  ⟨(some 107), .call (.k (.c (.fn fn_vote_Agree [] []))) [(.t 105), (.t 106)], none⟩,
  ⟨(some 25), .mv (.t 107), none⟩]
abbrev o_rotalaw22_VoteShifts_20 : List IOper := [⟨(some 108), .mv (.t 14), none⟩,
  ⟨(some 109), .mv (.t 12), none⟩,
  ⟨(some 110), .mv (.t 1), none⟩,
  ⟨(some 111), .cv .i64 (.t 110), none⟩,
  ⟨(some 112), .bin .add (.t 109) (.t 111), none⟩,
  ⟨(some 113), .bin .neq (.t 108) (.t 112), none⟩,
  ⟨(some 114), .mv (.t 113), none⟩,
  ⟨(some 115), .mv (.t 17), some (114, false)⟩,
  ⟨(some 116), .mv (.t 19), some (114, false)⟩,
  ⟨(some 117), .eq .bool true (.t 115) (.t 116), some (114, false)⟩,
  ⟨(some 118), .pick (.t 114) (.k (.c (.bool true))) (.t 117), none⟩,
  ⟨(some 119), .mv (.t 118), none⟩,
  ⟨(some 120), .mv (.t 17), some (119, false)⟩,
  ⟨(some 121), .mv (.t 120), some (119, false)⟩,
  ⟨(some 122), .mv (.t 18), some (121, true)⟩,
  ⟨(some 123), .mv (.t 16), some (121, true)⟩,
  ⟨(some 124), .mv (.t 1), some (121, true)⟩,
  ⟨(some 125), .cv .i64 (.t 124), some (121, true)⟩,
  ⟨(some 126), .bin .add (.t 123) (.t 125), some (121, true)⟩,
  ⟨(some 127), .bin .neq (.t 122) (.t 126), some (121, true)⟩,
  ⟨(some 128), .pick (.t 121) (.t 127) (.k (.c (.bool false))), some (119, false)⟩,
  ⟨(some 129), .pick (.t 119) (.k (.c (.bool true))) (.t 128), none⟩,
  ⟨(some 130), .mv (.t 129), none⟩,
  ⟨(some 131), .mv (.t 22), some (130, false)⟩,
  ⟨(some 132), .mv (.t 20), some (130, false)⟩,
  ⟨(some 133), .mv (.t 1), some (130, false)⟩,
  ⟨(some 134), .cv .i64 (.t 133), some (130, false)⟩,
  ⟨(some 135), .bin .add (.t 132) (.t 134), some (130, false)⟩,
  ⟨(some 136), .bin .neq (.t 131) (.t 135), some (130, false)⟩,
  ⟨(some 137), .pick (.t 130) (.k (.c (.bool true))) (.t 136), none⟩,
  ⟨(some 138), .mv (.t 137), none⟩,
  ⟨(some 139), .mv (.t 21), some (138, false)⟩,
  ⟨(some 140), .mv (.t 23), some (138, false)⟩,
  ⟨(some 141), .bin .neq (.t 139) (.t 140), some (138, false)⟩,
  ⟨(some 142), .pick (.t 138) (.k (.c (.bool true))) (.t 141), none⟩,
  ⟨(some 143), .mv (.t 142), none⟩,
  ⟨(some 144), .mv (.t 24), some (143, false)⟩,
  ⟨(some 145), .len false (.t 144), some (143, false)⟩,
  ⟨(some 146), .mv (.t 25), some (143, false)⟩,
  ⟨(some 147), .len false (.t 146), some (143, false)⟩,
  ⟨(some 148), .bin .neq (.t 145) (.t 147), some (143, false)⟩,
  ⟨(some 149), .pick (.t 143) (.k (.c (.bool true))) (.t 148), none⟩]
abbrev o_rotalaw22_VoteShifts_21 : List IOper := [⟨(some 8), .mv (.k (.c (.bool false))), none⟩]
abbrev o_rotalaw22_VoteShifts_22 : List IOper := [⟨(some 26), .mv (.k (.c (.int .i64 0))), none⟩]
abbrev o_rotalaw22_VoteShifts_23 : List IOper := [⟨(some 150), .mv (.t 26), none⟩,
  ⟨(some 151), .mv (.t 24), none⟩,
  ⟨(some 152), .len false (.t 151), none⟩,
  ⟨(some 153), .bin .lss (.t 150) (.t 152), none⟩]
abbrev o_rotalaw22_VoteShifts_24 : List IOper := [⟨(some 156), .mv (.t 24), none⟩,
  ⟨(some 157), .mv (.t 26), none⟩,
  ⟨(some 158), .iaS 1 (.t 156) (.t 157), none⟩,
  ⟨(some 159), .ld none (.t 158), none⟩,
  ⟨(some 160), .mv (.t 25), none⟩,
  ⟨(some 161), .mv (.t 26), none⟩,
  ⟨(some 162), .iaS 1 (.t 160) (.t 161), none⟩,
  ⟨(some 163), .ld none (.t 162), none⟩,
  ⟨(some 164), .bin .neq (.t 159) (.t 163), none⟩]
abbrev o_rotalaw22_VoteShifts_25 : List IOper := [⟨(some 8), .mv (.k (.c (.bool false))), none⟩]
abbrev o_rotalaw22_VoteShifts_26 : List IOper := [⟨(some 154), .mv (.t 26), none⟩,
  ⟨(some 155), .bin .add (.t 154) (.k (.c (.int .i64 1))), none⟩,
  ⟨(some 26), .mv (.t 155), none⟩]
def b_rotalaw22_VoteShifts_27 : IC := (.seq (.seq (.ops o_rotalaw22_VoteShifts_23) (.cond (.t 153) .skip (.exit 2))) (.seq (.block 3 (.seq (.ops o_rotalaw22_VoteShifts_24) (.cond (.t 164) (.seq (.ops o_rotalaw22_VoteShifts_25) .ret) .skip))) (.ops o_rotalaw22_VoteShifts_26)))
abbrev o_rotalaw22_VoteShifts_28 : List IOper := [⟨(some 165), .mv (.t 9), none⟩,
  ⟨(some 8), .mv (.t 165), none⟩]
def c_rotalaw22_VoteShifts : IC := (.seq (.ops o_rotalaw22_VoteShifts_0) (.seq (.ops o_rotalaw22_VoteShifts_1) (.seq (.seq (.ops o_rotalaw22_VoteShifts_2) (.cond (.t 39) (.seq (.ops o_rotalaw22_VoteShifts_3) .ret) .skip)) (.seq (.ops o_rotalaw22_VoteShifts_4) (.seq (.seq (.ops o_rotalaw22_VoteShifts_5) (.block 0 (.loop b_rotalaw22_VoteShifts_11))) (.seq (.ops o_rotalaw22_VoteShifts_12) (.seq (.ops o_rotalaw22_VoteShifts_13) (.seq (.ops o_rotalaw22_VoteShifts_14) (.seq (.ops o_rotalaw22_VoteShifts_15) (.seq (.ops o_rotalaw22_VoteShifts_16) (.seq (.ops o_rotalaw22_VoteShifts_17) (.seq (.ops o_rotalaw22_VoteShifts_18) (.seq (.ops o_rotalaw22_VoteShifts_19) (.seq (.seq (.ops o_rotalaw22_VoteShifts_20) (.cond (.t 149) (.seq (.ops o_rotalaw22_VoteShifts_21) .ret) .skip)) (.seq (.seq (.ops o_rotalaw22_VoteShifts_22) (.block 2 (.loop b_rotalaw22_VoteShifts_27))) (.seq (.ops o_rotalaw22_VoteShifts_28) .ret))))))))))))))))
def i_rotalaw22_VoteShifts : IFn := ⟨166, c_rotalaw22_VoteShifts, [(8, none)]⟩

-- F 10 rota/vote.Median: bads 0, calls [25, 24]
abbrev o_vote_Median_0 : List IOper := [⟨(some 2), .mv (.k (.c (.int .i64 0))), none⟩,
  ⟨(some 3), .mv (.k (.c (.bool false))), none⟩]
abbrev o_vote_Median_1 : List IOper := [⟨(some 4), .mv (.t 0), none⟩,
  ⟨(some 5), .len false (.t 4), none⟩,
  ⟨(some 6), .bin .eql (.t 5) (.k (.c (.int .i64 0))), none⟩]
abbrev o_vote_Median_2 : List IOper := [⟨(some 2), .mv (.k (.c (.int .i64 0))), none⟩,
  ⟨(some 3), .mv (.k (.c (.bool false))), none⟩]
abbrev o_vote_Median_3 : List IOper := [⟨(some 7), .mv (.t 0), none⟩,
  ⟨(some 8), .call (.k (.c (.fn fn_slices_Values_int_int [] []))) [(.t 7)], none⟩,
  ⟨(some 9), .call (.k (.c (.fn fn_slices_Sorted_int [] []))) [(.t 8)], none⟩,
  ⟨(some 10), .mv (.t 0), none⟩,
  ⟨(some 11), .len false (.t 10), none⟩,
  ⟨(some 12), .bin .sub (.t 11) (.k (.c (.int .i64 1))), none⟩,
  ⟨(some 13), .bin .quo (.t 12) (.k (.c (.int .i64 2))), none⟩,
  ⟨(some 14), .iaS 1 (.t 9) (.t 13), none⟩,
  ⟨(some 15), .ld none (.t 14), none⟩,
  ⟨(some 2), .mv (.t 15), none⟩,
  ⟨(some 3), .mv (.k (.c (.bool true))), none⟩]
def c_vote_Median : IC := (.seq (.ops o_vote_Median_0) (.seq (.seq (.ops o_vote_Median_1) (.cond (.t 6) (.seq (.ops o_vote_Median_2) .ret) .skip)) (.seq (.ops o_vote_Median_3) .ret)))
def i_vote_Median : IFn := ⟨16, c_vote_Median, [(2, none), (3, none)]⟩

-- F 11 rota/vote.Trim: bads 0, calls [25, 24]
abbrev o_vote_Trim_0 : List IOper := [⟨(some 4), .mv (.k (.c (.int .i64 0))), none⟩,
  ⟨(some 5), .mv (.k (.c (.int .i64 0))), none⟩,
  ⟨(some 6), .mv (.k (.c (.bool false))), none⟩]
abbrev o_vote_Trim_1 : List IOper := [⟨(some 7), .mv (.t 1), none⟩,
  ⟨(some 8), .bin .lss (.t 7) (.k (.c (.int .i64 0))), none⟩,
  ⟨(some 9), .mv (.t 8), none⟩,
  ⟨(some 10), .mv (.t 1), some (9, false)⟩,
  ⟨(some 11), .mv (.t 0), some (9, false)⟩,
  ⟨(some 12), .len false (.t 11), some (9, false)⟩,
  ⟨(some 13), .bin .gtr (.t 10) (.t 12), some (9, false)⟩,
  ⟨(some 14), .pick (.t 9) (.k (.c (.bool true))) (.t 13), none⟩,
  ⟨(some 15), .mv (.t 14), none⟩,
  ⟨(some 16), .mv (.t 0), some (15, false)⟩,
  ⟨(some 17), .len false (.t 16), some (15, false)⟩,
  ⟨(some 18), .mv (.t 1), some (15, false)⟩,
  ⟨(some 19), .bin .sub (.t 17) (.t 18), some (15, false)⟩,
  ⟨(some 20), .mv (.t 1), some (15, false)⟩,
  ⟨(some 21), .bin .leq (.t 19) (.t 20), some (15, false)⟩,
  ⟨(some 22), .pick (.t 15) (.k (.c (.bool true))) (.t 21), none⟩]
abbrev o_vote_Trim_2 : List IOper := [⟨(some 4), .mv (.k (.c (.int .i64 0))), none⟩,
  ⟨(some 5), .mv (.k (.c (.int .i64 0))), none⟩,
  ⟨(some 6), .mv (.k (.c (.bool false))), none⟩]
abbrev o_vote_Trim_3 : List IOper := [⟨(some 23), .mv (.t 0), none⟩,
  ⟨(some 24), .call (.k (.c (.fn fn_slices_Values_int_int [] []))) [(.t 23)], none⟩,
  ⟨(some 25), .call (.k (.c (.fn fn_slices_Sorted_int [] []))) [(.t 24)], none⟩,
  ⟨(some 0), .mv (.t 25), none⟩]
abbrev o_vote_Trim_4 : List IOper := [⟨(some 26), .mv (.t 0), none⟩,
  ⟨(some 27), .mv (.t 1), none⟩,
  ⟨(some 28), .iaS 1 (.t 26) (.t 27), none⟩,
  ⟨(some 29), .ld none (.t 28), none⟩,
  ⟨(some 30), .mv (.t 0), none⟩,
  ⟨(some 31), .mv (.t 0), none⟩,
  ⟨(some 32), .len false (.t 31), none⟩,
  ⟨(some 33), .bin .sub (.t 32) (.k (.c (.int .i64 1))), none⟩,
  ⟨(some 34), .mv (.t 1), none⟩,
  ⟨(some 35), .bin .sub (.t 33) (.t 34), none⟩,
  ⟨(some 36), .iaS 1 (.t 30) (.t 35), none⟩,
  ⟨(some 37), .ld none (.t 36), none⟩,
  ⟨(some 4), .mv (.t 29), none⟩,
  ⟨(some 5), .mv (.t 37), none⟩,
  ⟨(some 6), .mv (.k (.c (.bool true))), none⟩]
def c_vote_Trim : IC := (.seq (.ops o_vote_Trim_0) (.seq (.seq (.ops o_vote_Trim_1) (.cond (.t 22) (.seq (.ops o_vote_Trim_2) .ret) .skip)) (.seq (.ops o_vote_Trim_3) (.seq (.ops o_vote_Trim_4) .ret))))
def i_vote_Trim : IFn := ⟨38, c_vote_Trim, [(4, none), (5, none), (6, none)]⟩

-- F 12 rota/rotaref22.Trim: bads 0, calls [15, 15]
abbrev o_rotaref22_Trim_0 : List IOper := [⟨(some 4), .mv (.k (.c (.int .i64 0))), none⟩,
  ⟨(some 5), .mv (.k (.c (.int .i64 0))), none⟩,
  ⟨(some 6), .mv (.k (.c (.bool false))), none⟩]
abbrev o_rotaref22_Trim_1 : List IOper := [⟨(some 9), .mv (.t 1), none⟩,
  ⟨(some 10), .bin .lss (.t 9) (.k (.c (.int .i64 0))), none⟩,
  ⟨(some 11), .mv (.t 10), none⟩,
  ⟨(some 12), .mv (.t 1), some (11, false)⟩,
  ⟨(some 13), .mv (.t 0), some (11, false)⟩,
  ⟨(some 14), .len false (.t 13), some (11, false)⟩,
  ⟨(some 15), .bin .gtr (.t 12) (.t 14), some (11, false)⟩,
  ⟨(some 16), .pick (.t 11) (.k (.c (.bool true))) (.t 15), none⟩,
  ⟨(some 17), .mv (.t 16), none⟩,
  ⟨(some 18), .mv (.t 1), some (17, false)⟩,
  ⟨(some 19), .bin .mul (.k (.c (.int .i64 2))) (.t 18), some (17, false)⟩,
  ⟨(some 20), .mv (.t 0), some (17, false)⟩,
  ⟨(some 21), .len false (.t 20), some (17, false)⟩,
  ⟨(some 22), .bin .geq (.t 19) (.t 21), some (17, false)⟩,
  ⟨(some 23), .pick (.t 17) (.k (.c (.bool true))) (.t 22), none⟩]
abbrev o_rotaref22_Trim_2 : List IOper := [⟨(some 4), .mv (.k (.c (.int .i64 0))), none⟩,
  ⟨(some 5), .mv (.k (.c (.int .i64 0))), none⟩,
  ⟨(some 6), .mv (.k (.c (.bool false))), none⟩]
abbrev o_rotaref22_Trim_3 : List IOper := [⟨(some 24), .mv (.t 0), none⟩,
  ⟨(some 25), .mv (.t 1), none⟩,
  ⟨(some 26), .call (.k (.c (.fn fn_rotaref22_At [] []))) [(.t 24), (.t 25)], none⟩,
  ⟨(some 7), .mv (.t 26), none⟩]
abbrev o_rotaref22_Trim_4 : List IOper := [⟨(some 27), .mv (.t 0), none⟩,
  ⟨(some 28), .mv (.t 0), none⟩,
  ⟨(some 29), .len false (.t 28), none⟩,
  ⟨(some 30), .bin .sub (.t 29) (.k (.c (.int .i64 1))), none⟩,
  ⟨(some 31), .mv (.t 1), none⟩,
  ⟨(some 32), .bin .sub (.t 30) (.t 31), none⟩,
  ⟨(some 33), .call (.k (.c (.fn fn_rotaref22_At [] []))) [(.t 27), (.t 32)], none⟩,
  ⟨(some 8), .mv (.t 33), none⟩]
abbrev o_rotaref22_Trim_5 : List IOper := [⟨(some 34), .mv (.t 7), none⟩,
  ⟨(some 35), .mv (.t 8), none⟩,
  ⟨(some 4), .mv (.t 34), none⟩,
  ⟨(some 5), .mv (.t 35), none⟩,
  ⟨(some 6), .mv (.k (.c (.bool true))), none⟩]
def c_rotaref22_Trim : IC := (.seq (.ops o_rotaref22_Trim_0) (.seq (.seq (.ops o_rotaref22_Trim_1) (.cond (.t 23) (.seq (.ops o_rotaref22_Trim_2) .ret) .skip)) (.seq (.ops o_rotaref22_Trim_3) (.seq (.ops o_rotaref22_Trim_4) (.seq (.ops o_rotaref22_Trim_5) .ret)))))
def i_rotaref22_Trim : IFn := ⟨36, c_rotaref22_Trim, [(4, none), (5, none), (6, none)]⟩

-- F 13 rota/vote.Middle: bads 0, calls [11]
abbrev o_vote_Middle_0 : List IOper := [⟨(some 4), .mv (.k (.c (.int .i64 0))), none⟩,
  ⟨(some 5), .mv (.k (.c (.bool false))), none⟩]
abbrev o_vote_Middle_1 : List IOper := [⟨(some 10), .mv (.t 0), none⟩,
  ⟨(some 11), .mv (.t 1), none⟩,
  ⟨(some 12), .call (.k (.c (.fn fn_vote_Trim [] []))) [(.t 10), (.t 11)], none⟩,
  ⟨(some 9), .mv (.t 12), none⟩,
  ⟨(some 13), .ext (.t 9) 0, none⟩,
  ⟨(some 14), .ext (.t 9) 1, none⟩,
  ⟨(some 15), .ext (.t 9) 2, none⟩,
  ⟨(some 6), .mv (.t 13), none⟩,
  ⟨(some 7), .mv (.t 14), none⟩,
  ⟨(some 8), .mv (.t 15), none⟩]
abbrev o_vote_Middle_2 : List IOper := [⟨(some 16), .mv (.t 6), none⟩,
  ⟨(some 17), .bin .shr (.t 16) (.k (.c (.int .u64 1))), none⟩,
  ⟨(some 18), .mv (.t 7), none⟩,
  ⟨(some 19), .bin .shr (.t 18) (.k (.c (.int .u64 1))), none⟩,
  ⟨(some 20), .bin .add (.t 17) (.t 19), none⟩,
  ⟨(some 21), .mv (.t 6), none⟩,
  ⟨(some 22), .mv (.t 7), none⟩,
  ⟨(some 23), .bin .and (.t 21) (.t 22), none⟩,
  ⟨(some 24), .bin .and (.t 23) (.k (.c (.int .i64 1))), none⟩,
  ⟨(some 25), .bin .add (.t 20) (.t 24), none⟩,
  ⟨(some 26), .mv (.t 8), none⟩,
  ⟨(some 4), .mv (.t 25), none⟩,
  ⟨(some 5), .mv (.t 26), none⟩]
def c_vote_Middle : IC := (.seq (.ops o_vote_Middle_0) (.seq (.ops o_vote_Middle_1) (.seq (.ops o_vote_Middle_2) .ret)))
def i_vote_Middle : IFn := ⟨27, c_vote_Middle, [(4, none), (5, none)]⟩

-- F 14 rota/rotaref22.Middle: bads 0, calls [12, 26]
abbrev o_rotaref22_Middle_0 : List IOper := [⟨(some 4), .mv (.k (.c (.int .i64 0))), none⟩,
  ⟨(some 5), .mv (.k (.c (.bool false))), none⟩]
abbrev o_rotaref22_Middle_1 : List IOper := [⟨(some 10), .mv (.t 0), none⟩,
  ⟨(some 11), .mv (.t 1), none⟩,
  ⟨(some 12), .call (.k (.c (.fn fn_rotaref22_Trim [] []))) [(.t 10), (.t 11)], none⟩,
  ⟨(some 9), .mv (.t 12), none⟩,
  ⟨(some 13), .ext (.t 9) 0, none⟩,
  ⟨(some 14), .ext (.t 9) 1, none⟩,
  ⟨(some 15), .ext (.t 9) 2, none⟩,
  ⟨(some 6), .mv (.t 13), none⟩,
  ⟨(some 7), .mv (.t 14), none⟩,
  ⟨(some 8), .mv (.t 15), none⟩]
abbrev o_rotaref22_Middle_2 : List IOper := [⟨(some 16), .mv (.t 8), none⟩,
  ⟨(some 17), .un .not (.t 16), none⟩]
abbrev o_rotaref22_Middle_3 : List IOper := [⟨(some 4), .mv (.k (.c (.int .i64 0))), none⟩,
  ⟨(some 5), .mv (.k (.c (.bool false))), none⟩]
abbrev o_rotaref22_Middle_4 : List IOper := [⟨(some 18), .mv (.t 6), none⟩,
  ⟨(some 19), .mv (.t 7), none⟩,
  ⟨(some 20), .call (.k (.c (.fn fn_rotaref22_halves [] []))) [(.t 18), (.t 19)], none⟩,
  ⟨(some 4), .mv (.t 20), none⟩,
  ⟨(some 5), .mv (.k (.c (.bool true))), none⟩]
def c_rotaref22_Middle : IC := (.seq (.ops o_rotaref22_Middle_0) (.seq (.ops o_rotaref22_Middle_1) (.seq (.seq (.ops o_rotaref22_Middle_2) (.cond (.t 17) (.seq (.ops o_rotaref22_Middle_3) .ret) .skip)) (.seq (.ops o_rotaref22_Middle_4) .ret))))
def i_rotaref22_Middle : IFn := ⟨21, c_rotaref22_Middle, [(4, none), (5, none)]⟩

-- F 15 rota/rotaref22.At: bads 0, calls [27]
abbrev o_rotaref22_At_0 : List IOper := [⟨(some 4), .mv (.k (.c (.int .i64 0))), none⟩]
abbrev o_rotaref22_At_1 : List IOper := [⟨(some 5), .mv (.k (.c (.int .i64 0))), none⟩]
abbrev o_rotaref22_At_2 : List IOper := [⟨(some 8), .mv (.t 5), none⟩,
  ⟨(some 9), .mv (.t 0), none⟩,
  ⟨(some 10), .len false (.t 9), none⟩,
  ⟨(some 11), .bin .lss (.t 8) (.t 10), none⟩]
abbrev o_rotaref22_At_3 : List IOper := [⟨(some 15), .mv (.t 0), none⟩,
  ⟨(some 16), .mv (.t 0), none⟩,
  ⟨(some 17), .mv (.t 5), none⟩,
  ⟨(some 18), .iaS 1 (.t 16) (.t 17), none⟩,
  ⟨(some 19), .ld none (.t 18), none⟩,
  ⟨(some 20), .call (.k (.c (.fn fn_rotaref22_count [] []))) [(.t 15), (.t 19)], none⟩,
  ⟨(some 14), .mv (.t 20), none⟩,
  ⟨(some 21), .ext (.t 14) 0, none⟩,
  ⟨(some 22), .ext (.t 14) 1, none⟩,
  ⟨(some 6), .mv (.t 21), none⟩,
  ⟨(some 7), .mv (.t 22), none⟩]
abbrev o_rotaref22_At_4 : List IOper := [⟨(some 23), .mv (.t 1), none⟩,
  ⟨(some 24), .mv (.t 7), none⟩,
  ⟨(some 25), .bin .geq (.t 23) (.t 24), none⟩,
  ⟨(some 26), .mv (.t 25), none⟩,
  ⟨(some 27), .mv (.t 1), some (26, true)⟩,
  ⟨(some 28), .mv (.t 7), some (26, true)⟩,
  ⟨(some 29), .mv (.t 6), some (26, true)⟩,
  ⟨(some 30), .bin .add (.t 28) (.t 29), some (26, true)⟩,
  ⟨(some 31), .bin .lss (.t 27) (.t 30), some (26, true)⟩,
  ⟨(some 32), .pick (.t 26) (.t 31) (.k (.c (.bool false))), none⟩]
abbrev o_rotaref22_At_5 : List IOper := [⟨(some 33), .mv (.t 0), none⟩,
  ⟨(some 34), .mv (.t 5), none⟩,
  ⟨(some 35), .iaS 1 (.t 33) (.t 34), none⟩,
  ⟨(some 36), .ld none (.t 35), none⟩,
  ⟨(some 4), .mv (.t 36), none⟩]
abbrev o_rotaref22_At_6 : List IOper := [⟨(some 12), .mv (.t 5), none⟩,
  ⟨(some 13), .bin .add (.t 12) (.k (.c (.int .i64 1))), none⟩,
  ⟨(some 5), .mv (.t 13), none⟩]
def b_rotaref22_At_7 : IC := (.seq (.seq (.ops o_rotaref22_At_2) (.cond (.t 11) .skip (.exit 0))) (.seq (.block 1 (.seq (.ops o_rotaref22_At_3) (.seq (.ops o_rotaref22_At_4) (.cond (.t 32) (.seq (.ops o_rotaref22_At_5) .ret) .skip)))) (.ops o_rotaref22_At_6)))
abbrev o_rotaref22_At_8 : List IOper := [⟨(some 4), .mv (.k (.c (.int .i64 0))), none⟩]
def c_rotaref22_At : IC := (.seq (.ops o_rotaref22_At_0) (.seq (.seq (.ops o_rotaref22_At_1) (.block 0 (.loop b_rotaref22_At_7))) (.seq (.ops o_rotaref22_At_8) .ret)))
def i_rotaref22_At : IFn := ⟨37, c_rotaref22_At, [(4, none)]⟩

-- F 16 rota/rotaref22.Ints: bads 0, calls []
abbrev o_rotaref22_Ints_0 : List IOper := [⟨(some 4), .mv (.k (.c (.bool false))), none⟩]
abbrev o_rotaref22_Ints_1 : List IOper := [⟨(some 6), .mv (.t 0), none⟩,
  ⟨(some 7), .len false (.t 6), none⟩,
  ⟨(some 8), .mv (.t 1), none⟩,
  ⟨(some 9), .len false (.t 8), none⟩,
  ⟨(some 10), .bin .neq (.t 7) (.t 9), none⟩]
abbrev o_rotaref22_Ints_2 : List IOper := [⟨(some 4), .mv (.k (.c (.bool false))), none⟩]
abbrev o_rotaref22_Ints_3 : List IOper := [⟨(some 5), .mv (.k (.c (.int .i64 0))), none⟩]
abbrev o_rotaref22_Ints_4 : List IOper := [⟨(some 11), .mv (.t 5), none⟩,
  ⟨(some 12), .mv (.t 0), none⟩,
  ⟨(some 13), .len false (.t 12), none⟩,
  ⟨(some 14), .bin .lss (.t 11) (.t 13), none⟩]
abbrev o_rotaref22_Ints_5 : List IOper := [⟨(some 17), .mv (.t 0), none⟩,
  ⟨(some 18), .mv (.t 5), none⟩,
  ⟨(some 19), .iaS 1 (.t 17) (.t 18), none⟩,
  ⟨(some 20), .ld none (.t 19), none⟩,
  ⟨(some 21), .mv (.t 1), none⟩,
  ⟨(some 22), .mv (.t 5), none⟩,
  ⟨(some 23), .iaS 1 (.t 21) (.t 22), none⟩,
  ⟨(some 24), .ld none (.t 23), none⟩,
  ⟨(some 25), .bin .neq (.t 20) (.t 24), none⟩]
abbrev o_rotaref22_Ints_6 : List IOper := [⟨(some 4), .mv (.k (.c (.bool false))), none⟩]
abbrev o_rotaref22_Ints_7 : List IOper := [⟨(some 15), .mv (.t 5), none⟩,
  ⟨(some 16), .bin .add (.t 15) (.k (.c (.int .i64 1))), none⟩,
  ⟨(some 5), .mv (.t 16), none⟩]
def b_rotaref22_Ints_8 : IC := (.seq (.seq (.ops o_rotaref22_Ints_4) (.cond (.t 14) .skip (.exit 0))) (.seq (.block 1 (.seq (.ops o_rotaref22_Ints_5) (.cond (.t 25) (.seq (.ops o_rotaref22_Ints_6) .ret) .skip))) (.ops o_rotaref22_Ints_7)))
abbrev o_rotaref22_Ints_9 : List IOper := [⟨(some 4), .mv (.k (.c (.bool true))), none⟩]
def c_rotaref22_Ints : IC := (.seq (.ops o_rotaref22_Ints_0) (.seq (.seq (.ops o_rotaref22_Ints_1) (.cond (.t 10) (.seq (.ops o_rotaref22_Ints_2) .ret) .skip)) (.seq (.seq (.ops o_rotaref22_Ints_3) (.block 0 (.loop b_rotaref22_Ints_8))) (.seq (.ops o_rotaref22_Ints_9) .ret))))
def i_rotaref22_Ints : IFn := ⟨26, c_rotaref22_Ints, [(4, none)]⟩

-- F 17 rota/vote.Plural: bads 0, calls [28]
abbrev o_vote_Plural_0 : List IOper := [⟨(some 2), .new 3 (.c (.int .i64 0)), none⟩,
  ⟨(some 3), .new 3 (.c (.int .i64 0)), none⟩]
abbrev o_vote_Plural_1 : List IOper := [⟨(some 6), .mv (.t 0), none⟩,
  ⟨(some 7), .call (.k (.c (.fn fn_vote_runs [] []))) [(.t 6)], none⟩]
abbrev o_vote_Plural_2 : List IOper := [⟨(some 4), .mv (.t 8), none⟩]
abbrev o_vote_Plural_3 : List IOper := [⟨(some 5), .mv (.t 9), none⟩]
abbrev o_vote_Plural_4 : List IOper := [⟨(some 10), .mv (.t 5), none⟩,
  ⟨(some 11), .ld none (.t 3), none⟩,
  ⟨(some 12), .bin .gtr (.t 10) (.t 11), none⟩]
abbrev o_vote_Plural_5 : List IOper := [⟨(some 13), .mv (.t 4), none⟩,
  ⟨(some 14), .mv (.t 5), none⟩,
  ⟨none, .st 1 (.t 2) (.t 13), none⟩,
  ⟨none, .st 1 (.t 3) (.t 14), none⟩]
def a_vote_Plural_6 : IC := (.seq (.ops o_vote_Plural_2) (.ops o_vote_Plural_3))
def b_vote_Plural_7 : IC := (.block 1 (.seq (.ops o_vote_Plural_4) (.cond (.t 12) (.ops o_vote_Plural_5) .skip)))
abbrev o_vote_Plural_8 : List IOper := [⟨(some 16), .ld none (.t 3), none⟩,
  ⟨(some 15), .ld none (.t 2), none⟩,
  ⟨none, .st 1 (.t 2) (.t 15), none⟩,
  ⟨none, .same (some none) (.t 3) (.t 16), none⟩,
  ⟨none, .st 1 (.t 3) (.t 16), none⟩]
def c_vote_Plural : IC := (.seq (.ops o_vote_Plural_0) (.seq (.seq (.ops o_vote_Plural_1) (.block 0 (.rangeF (.t 7) [8, 9] a_vote_Plural_6 b_vote_Plural_7))) (.seq (.ops o_vote_Plural_8) .ret)))
def i_vote_Plural : IFn := ⟨17, c_vote_Plural, [(2, (some none)), (3, (some none))]⟩

-- F 18 rota/rotaref22.Plural: bads 0, calls [27]
abbrev o_rotaref22_Plural_0 : List IOper := [⟨(some 2), .mv (.k (.c (.int .i64 0))), none⟩,
  ⟨(some 3), .mv (.k (.c (.int .i64 0))), none⟩]
abbrev o_rotaref22_Plural_1 : List IOper := [⟨(some 4), .mv (.k (.c (.int .i64 0))), none⟩]
abbrev o_rotaref22_Plural_2 : List IOper := [⟨(some 5), .mv (.k (.c (.int .i64 0))), none⟩]
abbrev o_rotaref22_Plural_3 : List IOper := [⟨(some 6), .mv (.k (.c (.int .i64 0))), none⟩]
abbrev o_rotaref22_Plural_4 : List IOper := [⟨(some 9), .mv (.t 6), none⟩,
  ⟨(some 10), .mv (.t 0), none⟩,
  ⟨(some 11), .len false (.t 10), none⟩,
  ⟨(some 12), .bin .lss (.t 9) (.t 11), none⟩]
abbrev o_rotaref22_Plural_5 : List IOper := [⟨(some 16), .mv (.t 0), none⟩,
  ⟨(some 17), .mv (.t 0), none⟩,
  ⟨(some 18), .mv (.t 6), none⟩,
  ⟨(some 19), .iaS 1 (.t 17) (.t 18), none⟩,
  ⟨(some 20), .ld none (.t 19), none⟩,
  ⟨(some 21), .call (.k (.c (.fn fn_rotaref22_count [] []))) [(.t 16), (.t 20)], none⟩,
  ⟨(some 15), .mv (.t 21), none⟩,
  ⟨(some 22), .ext (.t 15) 0, none⟩,
  ⟨(some 23), .ext (.t 15) 1, none⟩,
  ⟨(some 7), .mv (.t 22), none⟩,
  ⟨(some 8), .mv (.t 23), none⟩]
abbrev o_rotaref22_Plural_6 : List IOper := [⟨(some 24), .mv (.t 7), none⟩,
  ⟨(some 25), .mv (.t 5), none⟩,
  ⟨(some 26), .bin .gtr (.t 24) (.t 25), none⟩,
  ⟨(some 27), .mv (.t 26), none⟩,
  ⟨(some 28), .mv (.t 7), some (27, false)⟩,
  ⟨(some 29), .mv (.t 5), some (27, false)⟩,
  ⟨(some 30), .bin .eql (.t 28) (.t 29), some (27, false)⟩,
  ⟨(some 31), .mv (.t 30), some (27, false)⟩,
  ⟨(some 32), .mv (.t 0), some (31, true)⟩,
  ⟨(some 33), .mv (.t 6), some (31, true)⟩,
  ⟨(some 34), .iaS 1 (.t 32) (.t 33), some (31, true)⟩,
  ⟨(some 35), .ld none (.t 34), some (31, true)⟩,
  ⟨(some 36), .mv (.t 4), some (31, true)⟩,
  ⟨(some 37), .bin .lss (.t 35) (.t 36), some (31, true)⟩,
  ⟨(some 38), .pick (.t 31) (.t 37) (.k (.c (.bool false))), some (27, false)⟩,
  ⟨(some 39), .pick (.t 27) (.k (.c (.bool true))) (.t 38), none⟩]
abbrev o_rotaref22_Plural_7 : List IOper := [⟨(some 40), .mv (.t 0), none⟩,
  ⟨(some 41), .mv (.t 6), none⟩,
  ⟨(some 42), .iaS 1 (.t 40) (.t 41), none⟩,
  ⟨(some 43), .ld none (.t 42), none⟩,
  ⟨(some 4), .mv (.t 43), none⟩]
abbrev o_rotaref22_Plural_8 : List IOper := [⟨(some 44), .mv (.t 7), none⟩,
  ⟨(some 5), .mv (.t 44), none⟩]
abbrev o_rotaref22_Plural_9 : List IOper := [⟨(some 13), .mv (.t 6), none⟩,
  ⟨(some 14), .bin .add (.t 13) (.k (.c (.int .i64 1))), none⟩,
  ⟨(some 6), .mv (.t 14), none⟩]
def b_rotaref22_Plural_10 : IC := (.seq (.seq (.ops o_rotaref22_Plural_4) (.cond (.t 12) .skip (.exit 0))) (.seq (.block 1 (.seq (.ops o_rotaref22_Plural_5) (.seq (.ops o_rotaref22_Plural_6) (.cond (.t 39) (.seq (.ops o_rotaref22_Plural_7) (.ops o_rotaref22_Plural_8)) .skip)))) (.ops o_rotaref22_Plural_9)))
abbrev o_rotaref22_Plural_11 : List IOper := [⟨(some 45), .mv (.t 4), none⟩,
  ⟨(some 46), .mv (.t 5), none⟩,
  ⟨(some 2), .mv (.t 45), none⟩,
  ⟨(some 3), .mv (.t 46), none⟩]
def c_rotaref22_Plural : IC := (.seq (.ops o_rotaref22_Plural_0) (.seq (.ops o_rotaref22_Plural_1) (.seq (.ops o_rotaref22_Plural_2) (.seq (.seq (.ops o_rotaref22_Plural_3) (.block 0 (.loop b_rotaref22_Plural_10))) (.seq (.ops o_rotaref22_Plural_11) .ret)))))
def i_rotaref22_Plural : IFn := ⟨47, c_rotaref22_Plural, [(2, none), (3, none)]⟩

-- F 19 rota/vote.Majority: bads 0, calls [17]
abbrev o_vote_Majority_0 : List IOper := [⟨(some 2), .mv (.k (.c (.int .i64 0))), none⟩,
  ⟨(some 3), .mv (.k (.c (.bool false))), none⟩]
abbrev o_vote_Majority_1 : List IOper := [⟨(some 7), .mv (.t 0), none⟩,
  ⟨(some 8), .call (.k (.c (.fn fn_vote_Plural [] []))) [(.t 7)], none⟩,
  ⟨(some 6), .mv (.t 8), none⟩,
  ⟨(some 9), .ext (.t 6) 0, none⟩,
  ⟨(some 10), .ext (.t 6) 1, none⟩,
  ⟨(some 4), .mv (.t 9), none⟩,
  ⟨(some 5), .mv (.t 10), none⟩]
abbrev o_vote_Majority_2 : List IOper := [⟨(some 11), .mv (.t 5), none⟩,
  ⟨(some 12), .mv (.t 0), none⟩,
  ⟨(some 13), .len false (.t 12), none⟩,
  ⟨(some 14), .mv (.t 5), none⟩,
  ⟨(some 15), .bin .sub (.t 13) (.t 14), none⟩,
  ⟨(some 16), .bin .leq (.t 11) (.t 15), none⟩]
abbrev o_vote_Majority_3 : List IOper := [⟨(some 2), .mv (.k (.c (.int .i64 0))), none⟩,
  ⟨(some 3), .mv (.k (.c (.bool false))), none⟩]
abbrev o_vote_Majority_4 : List IOper := [⟨(some 17), .mv (.t 4), none⟩,
  ⟨(some 2), .mv (.t 17), none⟩,
  ⟨(some 3), .mv (.k (.c (.bool true))), none⟩]
def c_vote_Majority : IC := (.seq (.ops o_vote_Majority_0) (.seq (.ops o_vote_Majority_1) (.seq (.seq (.ops o_vote_Majority_2) (.cond (.t 16) (.seq (.ops o_vote_Majority_3) .ret) .skip)) (.seq (.ops o_vote_Majority_4) .ret))))
def i_vote_Majority : IFn := ⟨18, c_vote_Majority, [(2, none), (3, none)]⟩

-- F 20 rota/vote.Agree: bads 0, calls [29, 28]
abbrev o_vote_Agree_0 : List IOper := [⟨(some 2), .box 22 (.t 0), none⟩,
  ⟨(some 3), .box 3 (.t 1), none⟩,
  ⟨(some 4), .mv (.k (.c (.sl none 0 0 false))), none⟩]
abbrev o_vote_Agree_1 : List IOper := [⟨(some 9), .ld none (.t 3), none⟩,
  ⟨(some 10), .bin .lss (.t 9) (.k (.c (.int .i64 0))), none⟩]
abbrev o_vote_Agree_2 : List IOper := [⟨(some 4), .mv (.k (.c (.sl none 0 0 false))), none⟩]
abbrev o_vote_Agree_3 : List IOper := [⟨(some 5), .new 22 (.c (.sl none 0 0 false)), none⟩]
abbrev o_vote_Agree_4 : List IOper := [⟨(some 11), .mkfn fn_vote_Agree_1 [] [(.t 2), (.t 3)], none⟩,
  ⟨(some 6), .new 51 (.c .nilFn), none⟩,
  ⟨none, .st 1 (.t 6) (.t 11), none⟩]
abbrev o_vote_Agree_5 : List IOper := [⟨(some 12), .ld none (.t 2), none⟩,
  ⟨(some 13), .call (.k (.c (.fn fn_vote_runs [] []))) [(.t 12)], none⟩]
abbrev o_vote_Agree_6 : List IOper := [⟨(some 7), .mv (.t 14), none⟩]
abbrev o_vote_Agree_7 : List IOper := [⟨(some 16), .ld none (.t 6), none⟩,
  ⟨(some 17), .mv (.t 7), none⟩,
  ⟨(some 18), .call (.t 16) [(.t 17)], none⟩,
  ⟨(some 8), .mv (.t 18), none⟩]
abbrev o_vote_Agree_8 : List IOper := [⟨(some 19), .mv (.t 8), none⟩,
  ⟨(some 20), .len false (.t 19), none⟩,
  ⟨(some 21), .ld none (.t 5), none⟩,
  ⟨(some 22), .len false (.t 21), none⟩,
  ⟨(some 23), .bin .leq (.t 20) (.t 22), none⟩]
abbrev o_vote_Agree_9 : List IOper := [⟨(some 24), .mv (.t 8), none⟩,
  ⟨none, .st 1 (.t 5) (.t 24), none⟩]
def a_vote_Agree_10 : IC := (.ops o_vote_Agree_6)
def b_vote_Agree_11 : IC := (.block 1 (.seq (.ops o_vote_Agree_7) (.seq (.seq (.ops o_vote_Agree_8) (.cond (.t 23) (.exit 1) .skip)) (.ops o_vote_Agree_9))))
abbrev o_vote_Agree_12 : List IOper := [⟨(some 25), .ld none (.t 5), none⟩,
  ⟨(some 4), .mv (.t 25), none⟩]
def c_vote_Agree : IC := (.seq (.ops o_vote_Agree_0) (.seq .skip (.seq (.seq (.ops o_vote_Agree_1) (.cond (.t 10) (.seq (.ops o_vote_Agree_2) .ret) .skip)) (.seq (.ops o_vote_Agree_3) (.seq (.ops o_vote_Agree_4) (.seq .skip (.seq (.seq (.ops o_vote_Agree_5) (.block 0 (.rangeF (.t 13) [14, 15] a_vote_Agree_10 b_vote_Agree_11))) (.seq (.ops o_vote_Agree_12) .ret))))))))
def i_vote_Agree : IFn := ⟨26, c_vote_Agree, [(4, none)]⟩

-- F 21 rota/rotaref22.Agree: bads 0, calls [31]
abbrev o_rotaref22_Agree_0 : List IOper := [⟨(some 4), .mv (.k (.c (.sl none 0 0 false))), none⟩]
abbrev o_rotaref22_Agree_1 : List IOper := [⟨(some 10), .mv (.t 1), none⟩,
  ⟨(some 11), .bin .lss (.t 10) (.k (.c (.int .i64 0))), none⟩]
abbrev o_rotaref22_Agree_2 : List IOper := [⟨(some 4), .mv (.k (.c (.sl none 0 0 false))), none⟩]
abbrev o_rotaref22_Agree_3 : List IOper := [⟨(some 5), .mv (.k (.c (.sl none 0 0 false))), none⟩]
abbrev o_rotaref22_Agree_4 : List IOper := [⟨(some 6), .mv (.k (.c (.int .i64 0))), none⟩]
abbrev o_rotaref22_Agree_5 : List IOper := [⟨(some 7), .mv (.k (.c (.int .i64 0))), none⟩]
abbrev o_rotaref22_Agree_6 : List IOper := [⟨(some 12), .mv (.t 7), none⟩,
  ⟨(some 13), .mv (.t 0), none⟩,
  ⟨(some 14), .len false (.t 13), none⟩,
  ⟨(some 15), .bin .lss (.t 12) (.t 14), none⟩]
abbrev o_rotaref22_Agree_7 : List IOper := [⟨(some 8), .mv (.k (.c (.sl none 0 0 false))), none⟩]
abbrev o_rotaref22_Agree_8 : List IOper := [⟨(some 9), .mv (.k (.c (.int .i64 0))), none⟩]
abbrev o_rotaref22_Agree_9 : List IOper := [⟨(some 18), .mv (.t 9), none⟩,
  ⟨(some 19), .mv (.t 0), none⟩,
  ⟨(some 20), .len false (.t 19), none⟩,
  ⟨(some 21), .bin .lss (.t 18) (.t 20), none⟩]
abbrev o_rotaref22_Agree_10 : List IOper := [⟨(some 24), .mv (.t 0), none⟩,
  ⟨(some 25), .mv (.t 7), none⟩,
  ⟨(some 26), .iaS 1 (.t 24) (.t 25), none⟩,
  ⟨(some 27), .ld none (.t 26), none⟩,
  ⟨(some 28), .mv (.t 0), none⟩,
  ⟨(some 29), .mv (.t 9), none⟩,
  ⟨(some 30), .iaS 1 (.t 28) (.t 29), none⟩,
  ⟨(some 31), .ld none (.t 30), none⟩,
  ⟨(some 32), .mv (.t 1), none⟩,
  ⟨(some 33), .call (.k (.c (.fn fn_rotaref22_within [] []))) [(.t 27), (.t 31), (.t 32)], none⟩]
abbrev o_rotaref22_Agree_11 : List IOper := [⟨(some 34), .mv (.t 8), none⟩,
  ⟨(some 35), .mv (.t 9), none⟩,
  ⟨(some 36), .bsl 3 1 [(.int .i64 0)] [(0, 1, (.t 35))], none⟩,
  ⟨(some 37), .app 3 1 8 (.t 34) (.t 36), none⟩,
  ⟨(some 8), .mv (.t 37), none⟩]
abbrev o_rotaref22_Agree_12 : List IOper := [⟨(some 22), .mv (.t 9), none⟩,
  ⟨(some 23), .bin .add (.t 22) (.k (.c (.int .i64 1))), none⟩,
  ⟨(some 9), .mv (.t 23), none⟩]
def b_rotaref22_Agree_13 : IC := (.seq (.seq (.ops o_rotaref22_Agree_9) (.cond (.t 21) .skip (.exit 2))) (.seq (.block 3 (.seq (.ops o_rotaref22_Agree_10) (.cond (.t 33) (.ops o_rotaref22_Agree_11) .skip))) (.ops o_rotaref22_Agree_12)))
abbrev o_rotaref22_Agree_14 : List IOper := [⟨(some 38), .mv (.t 8), none⟩,
  ⟨(some 39), .len false (.t 38), none⟩,
  ⟨(some 40), .mv (.t 5), none⟩,
  ⟨(some 41), .len false (.t 40), none⟩,
  ⟨(some 42), .bin .gtr (.t 39) (.t 41), none⟩,
  ⟨(some 43), .mv (.t 42), none⟩,
  ⟨(some 44), .mv (.t 8), some (43, false)⟩,
  ⟨(some 45), .len false (.t 44), some (43, false)⟩,
  ⟨(some 46), .mv (.t 5), some (43, false)⟩,
  ⟨(some 47), .len false (.t 46), some (43, false)⟩,
  ⟨(some 48), .bin .eql (.t 45) (.t 47), some (43, false)⟩,
  ⟨(some 49), .mv (.t 48), some (43, false)⟩,
  ⟨(some 50), .mv (.t 0), some (49, true)⟩,
  ⟨(some 51), .mv (.t 7), some (49, true)⟩,
  ⟨(some 52), .iaS 1 (.t 50) (.t 51), some (49, true)⟩,
  ⟨(some 53), .ld none (.t 52), some (49, true)⟩,
  ⟨(some 54), .mv (.t 6), some (49, true)⟩,
  ⟨(some 55), .bin .lss (.t 53) (.t 54), some (49, true)⟩,
  ⟨(some 56), .pick (.t 49) (.t 55) (.k (.c (.bool false))), some (43, false)⟩,
  ⟨(some 57), .pick (.t 43) (.k (.c (.bool true))) (.t 56), none⟩]
abbrev o_rotaref22_Agree_15 : List IOper := [⟨(some 58), .mv (.t 8), none⟩,
  ⟨(some 5), .mv (.t 58), none⟩]
abbrev o_rotaref22_Agree_16 : List IOper := [⟨(some 59), .mv (.t 0), none⟩,
  ⟨(some 60), .mv (.t 7), none⟩,
  ⟨(some 61), .iaS 1 (.t 59) (.t 60), none⟩,
  ⟨(some 62), .ld none (.t 61), none⟩,
  ⟨(some 6), .mv (.t 62), none⟩]
abbrev o_rotaref22_Agree_17 : List IOper := [⟨(some 16), .mv (.t 7), none⟩,
  ⟨(some 17), .bin .add (.t 16) (.k (.c (.int .i64 1))), none⟩,
  ⟨(some 7), .mv (.t 17), none⟩]
def b_rotaref22_Agree_18 : IC := (.seq (.seq (.ops o_rotaref22_Agree_6) (.cond (.t 15) .skip (.exit 0))) (.seq (.block 1 (.seq (.ops o_rotaref22_Agree_7) (.seq (.seq (.ops o_rotaref22_Agree_8) (.block 2 (.loop b_rotaref22_Agree_13))) (.seq (.ops o_rotaref22_Agree_14) (.cond (.t 57) (.seq (.ops o_rotaref22_Agree_15) (.ops o_rotaref22_Agree_16)) .skip))))) (.ops o_rotaref22_Agree_17)))
abbrev o_rotaref22_Agree_19 : List IOper := [⟨(some 63), .mv (.t 5), none⟩,
  ⟨(some 4), .mv (.t 63), none⟩]
def c_rotaref22_Agree : IC := (.seq (.ops o_rotaref22_Agree_0) (.seq (.seq (.ops o_rotaref22_Agree_1) (.cond (.t 11) (.seq (.ops o_rotaref22_Agree_2) .ret) .skip)) (.seq (.ops o_rotaref22_Agree_3) (.seq (.ops o_rotaref22_Agree_4) (.seq (.seq (.ops o_rotaref22_Agree_5) (.block 0 (.loop b_rotaref22_Agree_18))) (.seq (.ops o_rotaref22_Agree_19) .ret))))))
def i_rotaref22_Agree : IFn := ⟨64, c_rotaref22_Agree, [(4, none)]⟩

-- F 22 rota/rotalaw22.alive: bads 0, calls [19, 10]
abbrev o_rotalaw22_alive_0 : List IOper := [⟨(some 0), .mv (.k (.c (.bool false))), none⟩]
abbrev o_rotalaw22_alive_1 : List IOper := [⟨(some 6), .bsl 3 3 [(.int .i64 0), (.int .i64 0), (.int .i64 0)] [(0, 1, (.k (.c (.int .i64 1)))), (1, 1, (.k (.c (.int .i64 2)))), (2, 1, (.k (.c (.int .i64 1))))], none⟩,
  ⟨(some 7), .call (.k (.c (.fn fn_vote_Majority [] []))) [(.t 6)], none⟩,
  ⟨(some 5), .mv (.t 7), none⟩,
  ⟨(some 8), .ext (.t 5) 0, none⟩,
  ⟨(some 9), .ext (.t 5) 1, none⟩,
  ⟨(some 1), .mv (.t 8), none⟩,
  ⟨(some 2), .mv (.t 9), none⟩]
abbrev o_rotalaw22_alive_2 : List IOper := [⟨(some 11), .bsl 3 3 [(.int .i64 0), (.int .i64 0), (.int .i64 0)] [(0, 1, (.k (.c (.int .i64 5)))), (1, 1, (.k (.c (.int .i64 1)))), (2, 1, (.k (.c (.int .i64 9))))], none⟩,
  ⟨(some 12), .call (.k (.c (.fn fn_vote_Median [] []))) [(.t 11)], none⟩,
  ⟨(some 10), .mv (.t 12), none⟩,
  ⟨(some 13), .ext (.t 10) 0, none⟩,
  ⟨(some 14), .ext (.t 10) 1, none⟩,
  ⟨(some 3), .mv (.t 13), none⟩,
  ⟨(some 4), .mv (.t 14), none⟩]
abbrev o_rotalaw22_alive_3 : List IOper := [⟨(some 15), .mv (.t 2), none⟩,
  ⟨(some 16), .mv (.t 15), none⟩,
  ⟨(some 17), .mv (.t 1), some (16, true)⟩,
  ⟨(some 18), .bin .eql (.t 17) (.k (.c (.int .i64 1))), some (16, true)⟩,
  ⟨(some 19), .pick (.t 16) (.t 18) (.k (.c (.bool false))), none⟩,
  ⟨(some 20), .mv (.t 19), none⟩,
  ⟨(some 21), .mv (.t 4), some (20, true)⟩,
  ⟨(some 22), .pick (.t 20) (.t 21) (.k (.c (.bool false))), none⟩,
  ⟨(some 23), .mv (.t 22), none⟩,
  ⟨(some 24), .mv (.t 3), some (23, true)⟩,
  ⟨(some 25), .bin .eql (.t 24) (.k (.c (.int .i64 5))), some (23, true)⟩,
  ⟨(some 26), .pick (.t 23) (.t 25) (.k (.c (.bool false))), none⟩,
  ⟨(some 0), .mv (.t 26), none⟩]
def c_rotalaw22_alive : IC := (.seq (.ops o_rotalaw22_alive_0) (.seq (.ops o_rotalaw22_alive_1) (.seq (.ops o_rotalaw22_alive_2) (.seq (.ops o_rotalaw22_alive_3) .ret))))
def i_rotalaw22_alive : IFn := ⟨27, c_rotalaw22_alive, [(0, none)]⟩

-- F 23 rota/rotalaw22.turned: bads 0, calls []
abbrev o_rotalaw22_turned_0 : List IOper := [⟨(some 4), .mv (.k (.c (.sl none 0 0 false))), none⟩]
abbrev o_rotalaw22_turned_1 : List IOper := [⟨(some 5), .mv (.k (.c (.sl none 0 0 false))), none⟩]
abbrev o_rotalaw22_turned_2 : List IOper := [⟨(some 7), .mv (.t 1), none⟩,
  ⟨(some 8), .mv (.t 0), none⟩,
  ⟨(some 9), .len false (.t 8), none⟩,
  ⟨(some 10), .bin .rem (.t 7) (.t 9), none⟩,
  ⟨(some 11), .mv (.t 0), none⟩,
  ⟨(some 12), .len false (.t 11), none⟩,
  ⟨(some 13), .bin .add (.t 10) (.t 12), none⟩,
  ⟨(some 14), .mv (.t 0), none⟩,
  ⟨(some 15), .len false (.t 14), none⟩,
  ⟨(some 16), .bin .rem (.t 13) (.t 15), none⟩,
  ⟨(some 6), .mv (.t 16), none⟩]
abbrev o_rotalaw22_turned_3 : List IOper := [⟨(some 17), .mv (.t 5), none⟩,
  ⟨(some 18), .mv (.t 0), none⟩,
  ⟨(some 19), .mv (.t 6), none⟩,
  ⟨(some 20), .slS 1 (.t 18) (some (.t 19)) none none, none⟩,
  ⟨(some 21), .app 3 1 8 (.t 17) (.t 20), none⟩,
  ⟨(some 5), .mv (.t 21), none⟩]
abbrev o_rotalaw22_turned_4 : List IOper := [⟨(some 22), .mv (.t 5), none⟩,
  ⟨(some 23), .mv (.t 0), none⟩,
  ⟨(some 24), .mv (.t 6), none⟩,
  ⟨(some 25), .slS 1 (.t 23) none (some (.t 24)) none, none⟩,
  ⟨(some 26), .app 3 1 8 (.t 22) (.t 25), none⟩,
  ⟨(some 4), .mv (.t 26), none⟩]
def c_rotalaw22_turned : IC := (.seq (.ops o_rotalaw22_turned_0) (.seq (.ops o_rotalaw22_turned_1) (.seq (.ops o_rotalaw22_turned_2) (.seq (.ops o_rotalaw22_turned_3) (.seq (.ops o_rotalaw22_turned_4) .ret)))))
def i_rotalaw22_turned : IFn := ⟨27, c_rotalaw22_turned, [(4, none)]⟩

-- F 24 slices.Sorted[int]: bads 0, calls [32, 33]
abbrev o_slices_Sorted_int_0 : List IOper := [⟨(some 2), .mv (.k (.c (.sl none 0 0 false))), none⟩]
abbrev o_slices_Sorted_int_1 : List IOper := [⟨(some 4), .mv (.t 0), none⟩,
  ⟨(some 5), .call (.k (.c (.fn fn_slices_Collect_int [] []))) [(.t 4)], none⟩,
  ⟨(some 3), .mv (.t 5), none⟩]
abbrev o_slices_Sorted_int_2 : List IOper := [⟨(some 6), .mv (.t 3), none⟩,
  ⟨(some 7), .call (.k (.c (.fn fn_slices_Sort_int_int [] []))) [(.t 6)], none⟩]
abbrev o_slices_Sorted_int_3 : List IOper := [⟨(some 8), .mv (.t 3), none⟩,
  ⟨(some 2), .mv (.t 8), none⟩]
def c_slices_Sorted_int : IC := (.seq (.ops o_slices_Sorted_int_0) (.seq (.ops o_slices_Sorted_int_1) (.seq (.ops o_slices_Sorted_int_2) (.seq (.ops o_slices_Sorted_int_3) .ret))))
def i_slices_Sorted_int : IFn := ⟨9, c_slices_Sorted_int, [(2, none)]⟩

-- F 25 slices.Values[[]int,int]: bads 0, calls [34]
abbrev o_slices_Values_int_int_0 : List IOper := [⟨(some 1), .box 22 (.t 0), none⟩,
  ⟨(some 2), .mv (.k (.c .nilFn)), none⟩]
abbrev o_slices_Values_int_int_1 : List IOper := [⟨(some 3), .mkfn fn_slices_Values_int_int_1 [] [(.t 1)], none⟩,
  ⟨(some 2), .mv (.t 3), none⟩]
def c_slices_Values_int_int : IC := (.seq (.ops o_slices_Values_int_int_0) (.seq (.ops o_slices_Values_int_int_1) .ret))
def i_slices_Values_int_int : IFn := ⟨4, c_slices_Values_int_int, [(2, none)]⟩

-- F 26 rota/rotaref22.halves: bads 0, calls []
abbrev o_rotaref22_halves_0 : List IOper := [⟨(some 4), .mv (.k (.c (.int .i64 0))), none⟩]
abbrev o_rotaref22_halves_1 : List IOper := [⟨(some 9), .mv (.t 0), none⟩,
  ⟨(some 10), .bin .quo (.t 9) (.k (.c (.int .i64 2))), none⟩,
  ⟨(some 5), .mv (.t 10), none⟩]
abbrev o_rotaref22_halves_2 : List IOper := [⟨(some 11), .mv (.t 1), none⟩,
  ⟨(some 12), .bin .quo (.t 11) (.k (.c (.int .i64 2))), none⟩,
  ⟨(some 6), .mv (.t 12), none⟩]
abbrev o_rotaref22_halves_3 : List IOper := [⟨(some 13), .mv (.t 0), none⟩,
  ⟨(some 14), .mv (.t 5), none⟩,
  ⟨(some 15), .bin .mul (.k (.c (.int .i64 2))) (.t 14), none⟩,
  ⟨(some 16), .bin .sub (.t 13) (.t 15), none⟩,
  ⟨(some 17), .mv (.t 1), none⟩,
  ⟨(some 18), .bin .add (.t 16) (.t 17), none⟩,
  ⟨(some 19), .mv (.t 6), none⟩,
  ⟨(some 20), .bin .mul (.k (.c (.int .i64 2))) (.t 19), none⟩,
  ⟨(some 21), .bin .sub (.t 18) (.t 20), none⟩,
  ⟨(some 7), .mv (.t 21), none⟩]
abbrev o_rotaref22_halves_4 : List IOper := [⟨(some 22), .mv (.t 5), none⟩,
  ⟨(some 23), .mv (.t 6), none⟩,
  ⟨(some 24), .bin .add (.t 22) (.t 23), none⟩,
  ⟨(some 8), .mv (.t 24), none⟩]
abbrev o_rotaref22_halves_5 : List IOper := [⟨(some 25), .mv (.t 7), none⟩,
  ⟨(some 26), .bin .eql (.t 25) (.k (.c (.int .i64 2))), none⟩]
abbrev o_rotaref22_halves_6 : List IOper := [⟨(some 27), .mv (.t 8), none⟩,
  ⟨(some 28), .bin .add (.t 27) (.k (.c (.int .i64 1))), none⟩,
  ⟨(some 8), .mv (.t 28), none⟩]
abbrev o_rotaref22_halves_7 : List IOper := [⟨(some 29), .mv (.t 7), none⟩,
  ⟨(some 30), .bin .lss (.t 29) (.k (.c (.int .i64 0))), none⟩]
abbrev o_rotaref22_halves_8 : List IOper := [⟨(some 31), .mv (.t 8), none⟩,
  ⟨(some 32), .bin .sub (.t 31) (.k (.c (.int .i64 1))), none⟩,
  ⟨(some 8), .mv (.t 32), none⟩]
abbrev o_rotaref22_halves_9 : List IOper := [⟨(some 33), .mv (.t 8), none⟩,
  ⟨(some 4), .mv (.t 33), none⟩]
def c_rotaref22_halves : IC := (.seq (.ops o_rotaref22_halves_0) (.seq (.ops o_rotaref22_halves_1) (.seq (.ops o_rotaref22_halves_2) (.seq (.ops o_rotaref22_halves_3) (.seq (.ops o_rotaref22_halves_4) (.seq (.seq (.ops o_rotaref22_halves_5) (.cond (.t 26) (.ops o_rotaref22_halves_6) .skip)) (.seq (.seq (.ops o_rotaref22_halves_7) (.cond (.t 30) (.ops o_rotaref22_halves_8) .skip)) (.seq (.ops o_rotaref22_halves_9) .ret))))))))
def i_rotaref22_halves : IFn := ⟨34, c_rotaref22_halves, [(4, none)]⟩

-- F 27 rota/rotaref22.count: bads 0, calls []
abbrev o_rotaref22_count_0 : List IOper := [⟨(some 4), .mv (.k (.c (.int .i64 0))), none⟩,
  ⟨(some 5), .mv (.k (.c (.int .i64 0))), none⟩]
abbrev o_rotaref22_count_1 : List IOper := [⟨(some 6), .mv (.k (.c (.int .i64 0))), none⟩]
abbrev o_rotaref22_count_2 : List IOper := [⟨(some 7), .mv (.k (.c (.int .i64 0))), none⟩]
abbrev o_rotaref22_count_3 : List IOper := [⟨(some 8), .mv (.k (.c (.int .i64 0))), none⟩]
abbrev o_rotaref22_count_4 : List IOper := [⟨(some 9), .mv (.t 8), none⟩,
  ⟨(some 10), .mv (.t 0), none⟩,
  ⟨(some 11), .len false (.t 10), none⟩,
  ⟨(some 12), .bin .lss (.t 9) (.t 11), none⟩]
abbrev o_rotaref22_count_5 : List IOper := [⟨(some 15), .mv (.t 0), none⟩,
  ⟨(some 16), .mv (.t 8), none⟩,
  ⟨(some 17), .iaS 1 (.t 15) (.t 16), none⟩,
  ⟨(some 18), .ld none (.t 17), none⟩,
  ⟨(some 19), .mv (.t 1), none⟩,
  ⟨(some 20), .bin .eql (.t 18) (.t 19), none⟩]
abbrev o_rotaref22_count_6 : List IOper := [⟨(some 21), .mv (.t 6), none⟩,
  ⟨(some 22), .bin .add (.t 21) (.k (.c (.int .i64 1))), none⟩,
  ⟨(some 6), .mv (.t 22), none⟩]
abbrev o_rotaref22_count_7 : List IOper := [⟨(some 23), .mv (.t 0), none⟩,
  ⟨(some 24), .mv (.t 8), none⟩,
  ⟨(some 25), .iaS 1 (.t 23) (.t 24), none⟩,
  ⟨(some 26), .ld none (.t 25), none⟩,
  ⟨(some 27), .mv (.t 1), none⟩,
  ⟨(some 28), .bin .lss (.t 26) (.t 27), none⟩]
abbrev o_rotaref22_count_8 : List IOper := [⟨(some 29), .mv (.t 7), none⟩,
  ⟨(some 30), .bin .add (.t 29) (.k (.c (.int .i64 1))), none⟩,
  ⟨(some 7), .mv (.t 30), none⟩]
abbrev o_rotaref22_count_9 : List IOper := [⟨(some 13), .mv (.t 8), none⟩,
  ⟨(some 14), .bin .add (.t 13) (.k (.c (.int .i64 1))), none⟩,
  ⟨(some 8), .mv (.t 14), none⟩]
def b_rotaref22_count_10 : IC := (.seq (.seq (.ops o_rotaref22_count_4) (.cond (.t 12) .skip (.exit 0))) (.seq (.block 1 (.seq (.seq (.ops o_rotaref22_count_5) (.cond (.t 20) (.ops o_rotaref22_count_6) .skip)) (.seq (.ops o_rotaref22_count_7) (.cond (.t 28) (.ops o_rotaref22_count_8) .skip)))) (.ops o_rotaref22_count_9)))
abbrev o_rotaref22_count_11 : List IOper := [⟨(some 31), .mv (.t 6), none⟩,
  ⟨(some 32), .mv (.t 7), none⟩,
  ⟨(some 4), .mv (.t 31), none⟩,
  ⟨(some 5), .mv (.t 32), none⟩]
def c_rotaref22_count : IC := (.seq (.ops o_rotaref22_count_0) (.seq (.ops o_rotaref22_count_1) (.seq (.ops o_rotaref22_count_2) (.seq (.seq (.ops o_rotaref22_count_3) (.block 0 (.loop b_rotaref22_count_10))) (.seq (.ops o_rotaref22_count_11) .ret)))))
def i_rotaref22_count : IFn := ⟨33, c_rotaref22_count, [(4, none), (5, none)]⟩

-- F 28 rota/vote.runs: bads 0, calls [35]
abbrev o_vote_runs_0 : List IOper := [⟨(some 1), .box 22 (.t 0), none⟩,
  ⟨(some 2), .mv (.k (.c .nilFn)), none⟩]
abbrev o_vote_runs_1 : List IOper := [⟨(some 3), .mkfn fn_vote_runs_1 [] [(.t 1)], none⟩,
  ⟨(some 2), .mv (.t 3), none⟩]
def c_vote_runs : IC := (.seq (.ops o_vote_runs_0) (.seq (.ops o_vote_runs_1) .ret))
def i_vote_runs : IFn := ⟨4, c_vote_runs, [(2, none)]⟩

-- F 29 rota/vote.Agree$1: bads 0, calls [30]
abbrev o_vote_Agree_1_0 : List IOper := [⟨(some 4), .mv (.k (.c (.sl none 0 0 false))), none⟩]
abbrev o_vote_Agree_1_1 : List IOper := [⟨(some 5), .mv (.k (.c (.sl none 0 0 false))), none⟩]
abbrev o_vote_Agree_1_2 : List IOper := [⟨(some 8), .ld none (.t 1), none⟩,
  ⟨(some 9), .len false (.t 8), none⟩,
  ⟨(some 10), .mv (.k (.c (.int .i64 0))), none⟩]
abbrev o_vote_Agree_1_3 : List IOper := [⟨(some 11), .bin .lss (.t 10) (.t 9), none⟩]
abbrev o_vote_Agree_1_4 : List IOper := [⟨(some 12), .mv (.t 10), none⟩,
  ⟨(some 13), .iaS 1 (.t 8) (.t 10), none⟩,
  ⟨(some 14), .ld none (.t 13), none⟩,
  ⟨(some 6), .mv (.t 12), none⟩,
  ⟨(some 7), .mv (.t 14), none⟩]
abbrev o_vote_Agree_1_5 : List IOper := [⟨(some 16), .mv (.t 0), none⟩,
  ⟨(some 15), .mv (.t 7), none⟩,
  ⟨(some 17), .bin .geq (.t 15) (.t 16), none⟩,
  ⟨(some 18), .mv (.t 17), none⟩,
  ⟨(some 22), .ld none (.t 2), some (18, true)⟩,
  ⟨(some 23), .cv .u64 (.t 22), some (18, true)⟩,
  ⟨(some 20), .mv (.t 7), some (18, true)⟩,
  ⟨(some 19), .mv (.t 0), some (18, true)⟩,
  ⟨(some 21), .call (.k (.c (.fn fn_vote_apart [] []))) [(.t 19), (.t 20)], some (18, true)⟩,
  ⟨none, .same (some none) (.t 2) (.t 22), some (18, true)⟩,
  ⟨(some 24), .bin .leq (.t 21) (.t 23), some (18, true)⟩,
  ⟨(some 25), .pick (.t 18) (.t 24) (.k (.c (.bool false))), none⟩]
abbrev o_vote_Agree_1_6 : List IOper := [⟨(some 26), .mv (.t 5), none⟩,
  ⟨(some 27), .mv (.t 6), none⟩,
  ⟨(some 28), .bsl 3 1 [(.int .i64 0)] [(0, 1, (.t 27))], none⟩,
  ⟨(some 29), .app 3 1 8 (.t 26) (.t 28), none⟩,
  ⟨(some 5), .mv (.t 29), none⟩]
abbrev o_vote_Agree_1_7 : List IOper := [⟨(some 30), .bin .add (.t 10) (.k (.c (.int .i64 1))), none⟩,
  ⟨(some 10), .mv (.t 30), none⟩]
def b_vote_Agree_1_8 : IC := (.seq (.ops o_vote_Agree_1_3) (.seq (.cond (.t 11) .skip (.exit 0)) (.seq (.block 1 (.seq (.ops o_vote_Agree_1_4) (.seq (.ops o_vote_Agree_1_5) (.cond (.t 25) (.ops o_vote_Agree_1_6) .skip)))) (.ops o_vote_Agree_1_7))))
abbrev o_vote_Agree_1_9 : List IOper := [⟨(some 31), .mv (.t 5), none⟩,
  ⟨(some 4), .mv (.t 31), none⟩]
def c_vote_Agree_1 : IC := (.seq (.ops o_vote_Agree_1_0) (.seq (.ops o_vote_Agree_1_1) (.seq (.seq (.ops o_vote_Agree_1_2) (.block 0 (.loop b_vote_Agree_1_8))) (.seq (.ops o_vote_Agree_1_9) .ret))))
def i_vote_Agree_1 : IFn := ⟨32, c_vote_Agree_1, [(4, none)]⟩

-- F 30 rota/vote.apart: bads 0, calls []
abbrev o_vote_apart_0 : List IOper := [⟨(some 4), .mv (.k (.c (.int .u64 0))), none⟩]
abbrev o_vote_apart_1 : List IOper := [⟨(some 5), .mv (.t 1), none⟩,
  ⟨(some 6), .cv .u64 (.t 5), none⟩,
  ⟨(some 7), .mv (.t 0), none⟩,
  ⟨(some 8), .cv .u64 (.t 7), none⟩,
  ⟨(some 9), .bin .sub (.t 6) (.t 8), none⟩,
  ⟨(some 4), .mv (.t 9), none⟩]
def c_vote_apart : IC := (.seq (.ops o_vote_apart_0) (.seq (.ops o_vote_apart_1) .ret))
def i_vote_apart : IFn := ⟨10, c_vote_apart, [(4, none)]⟩

-- F 31 rota/rotaref22.within: bads 0, calls []
abbrev o_rotaref22_within_0 : List IOper := [⟨(some 6), .mv (.k (.c (.bool false))), none⟩]
abbrev o_rotaref22_within_1 : List IOper := [⟨(some 7), .mv (.t 1), none⟩,
  ⟨(some 8), .mv (.t 0), none⟩,
  ⟨(some 9), .bin .lss (.t 7) (.t 8), none⟩]
abbrev o_rotaref22_within_2 : List IOper := [⟨(some 6), .mv (.k (.c (.bool false))), none⟩]
abbrev o_rotaref22_within_3 : List IOper := [⟨(some 10), .mv (.t 0), none⟩,
  ⟨(some 11), .bin .geq (.t 10) (.k (.c (.int .i64 0))), none⟩,
  ⟨(some 12), .mv (.t 11), none⟩,
  ⟨(some 13), .mv (.t 1), some (12, false)⟩,
  ⟨(some 14), .bin .lss (.t 13) (.k (.c (.int .i64 0))), some (12, false)⟩,
  ⟨(some 15), .pick (.t 12) (.k (.c (.bool true))) (.t 14), none⟩]
abbrev o_rotaref22_within_4 : List IOper := [⟨(some 16), .mv (.t 1), none⟩,
  ⟨(some 17), .mv (.t 0), none⟩,
  ⟨(some 18), .bin .sub (.t 16) (.t 17), none⟩,
  ⟨(some 19), .mv (.t 2), none⟩,
  ⟨(some 20), .bin .leq (.t 18) (.t 19), none⟩,
  ⟨(some 6), .mv (.t 20), none⟩]
abbrev o_rotaref22_within_5 : List IOper := [⟨(some 21), .mv (.t 1), none⟩,
  ⟨(some 22), .mv (.t 2), none⟩,
  ⟨(some 23), .bin .leq (.t 21) (.t 22), none⟩,
  ⟨(some 24), .mv (.t 23), none⟩,
  ⟨(some 25), .mv (.t 1), some (24, true)⟩,
  ⟨(some 26), .mv (.t 2), some (24, true)⟩,
  ⟨(some 27), .bin .sub (.t 25) (.t 26), some (24, true)⟩,
  ⟨(some 28), .mv (.t 0), some (24, true)⟩,
  ⟨(some 29), .bin .leq (.t 27) (.t 28), some (24, true)⟩,
  ⟨(some 30), .pick (.t 24) (.t 29) (.k (.c (.bool false))), none⟩,
  ⟨(some 6), .mv (.t 30), none⟩]
def c_rotaref22_within : IC := (.seq (.ops o_rotaref22_within_0) (.seq (.seq (.ops o_rotaref22_within_1) (.cond (.t 9) (.seq (.ops o_rotaref22_within_2) .ret) .skip)) (.seq (.seq (.ops o_rotaref22_within_3) (.cond (.t 15) (.seq (.ops o_rotaref22_within_4) .ret) .skip)) (.seq (.ops o_rotaref22_within_5) .ret))))
def i_rotaref22_within : IFn := ⟨31, c_rotaref22_within, [(6, none)]⟩

-- F 32 slices.Collect[int]: bads 0, calls [36]
abbrev o_slices_Collect_int_0 : List IOper := [⟨(some 2), .mv (.k (.c (.sl none 0 0 false))), none⟩]
abbrev o_slices_Collect_int_1 : List IOper := [⟨(some 3), .mv (.t 0), none⟩,
  ⟨(some 4), .call (.k (.c (.fn fn_slices_AppendSeq_int_int [] []))) [(.k (.c (.sl none 0 0 false))), (.t 3)], none⟩,
  ⟨(some 2), .mv (.t 4), none⟩]
def c_slices_Collect_int : IC := (.seq (.ops o_slices_Collect_int_0) (.seq (.ops o_slices_Collect_int_1) .ret))
def i_slices_Collect_int : IFn := ⟨5, c_slices_Collect_int, [(2, none)]⟩

-- F 33 slices.Sort[[]int,int]: NO BODY

-- F 34 slices.Values[[]int,int]$1: bads 0, calls []
abbrev o_slices_Values_int_int_1_0 : List IOper := [⟨(some 5), .ld none (.t 1), none⟩,
  ⟨(some 6), .len false (.t 5), none⟩,
  ⟨(some 7), .mv (.k (.c (.int .i64 0))), none⟩]
abbrev o_slices_Values_int_int_1_1 : List IOper := [⟨(some 8), .bin .lss (.t 7) (.t 6), none⟩]
abbrev o_slices_Values_int_int_1_2 : List IOper := [⟨(some 9), .iaS 1 (.t 5) (.t 7), none⟩,
  ⟨(some 10), .ld none (.t 9), none⟩,
  ⟨(some 4), .mv (.t 10), none⟩]
abbrev o_slices_Values_int_int_1_3 : List IOper := [⟨(some 11), .mv (.t 0), none⟩,
  ⟨(some 12), .mv (.t 4), none⟩,
  ⟨(some 13), .call (.t 11) [(.t 12)], none⟩,
  ⟨(some 14), .un .not (.t 13), none⟩]
abbrev o_slices_Values_int_int_1_4 : List IOper := [⟨(some 15), .bin .add (.t 7) (.k (.c (.int .i64 1))), none⟩,
  ⟨(some 7), .mv (.t 15), none⟩]
def b_slices_Values_int_int_1_5 : IC := (.seq (.ops o_slices_Values_int_int_1_1) (.seq (.cond (.t 8) .skip (.exit 0)) (.seq (.block 1 (.seq (.ops o_slices_Values_int_int_1_2) (.seq (.ops o_slices_Values_int_int_1_3) (.cond (.t 14) .ret .skip)))) (.ops o_slices_Values_int_int_1_4))))
def c_slices_Values_int_int_1 : IC := (.seq (.ops o_slices_Values_int_int_1_0) (.block 0 (.loop b_slices_Values_int_int_1_5)))
def i_slices_Values_int_int_1 : IFn := ⟨16, c_slices_Values_int_int_1, []⟩

-- F 35 rota/vote.runs$1: bads 0, calls [25, 24]
abbrev o_vote_runs_1_0 : List IOper := [⟨(some 5), .ld none (.t 1), none⟩,
  ⟨(some 6), .call (.k (.c (.fn fn_slices_Values_int_int [] []))) [(.t 5)], none⟩,
  ⟨(some 7), .call (.k (.c (.fn fn_slices_Sorted_int [] []))) [(.t 6)], none⟩,
  ⟨(some 3), .mv (.t 7), none⟩]
abbrev o_vote_runs_1_1 : List IOper := [⟨(some 8), .mv (.t 3), none⟩,
  ⟨(some 9), .len false (.t 8), none⟩,
  ⟨(some 10), .bin .gtr (.t 9) (.k (.c (.int .i64 0))), none⟩]
abbrev o_vote_runs_1_2 : List IOper := [⟨(some 4), .mv (.k (.c (.int .i64 1))), none⟩]
abbrev o_vote_runs_1_3 : List IOper := [⟨(some 11), .mv (.t 4), none⟩,
  ⟨(some 12), .mv (.t 3), none⟩,
  ⟨(some 13), .len false (.t 12), none⟩,
  ⟨(some 14), .bin .lss (.t 11) (.t 13), none⟩,
  ⟨(some 15), .mv (.t 14), none⟩,
  ⟨(some 16), .mv (.t 3), some (15, true)⟩,
  ⟨(some 17), .mv (.t 4), some (15, true)⟩,
  ⟨(some 18), .iaS 1 (.t 16) (.t 17), some (15, true)⟩,
  ⟨(some 19), .ld none (.t 18), some (15, true)⟩,
  ⟨(some 20), .mv (.t 3), some (15, true)⟩,
  ⟨(some 21), .iaS 1 (.t 20) (.k (.c (.int .i64 0))), some (15, true)⟩,
  ⟨(some 22), .ld none (.t 21), some (15, true)⟩,
  ⟨(some 23), .bin .eql (.t 19) (.t 22), some (15, true)⟩,
  ⟨(some 24), .pick (.t 15) (.t 23) (.k (.c (.bool false))), none⟩]
abbrev o_vote_runs_1_4 : List IOper := [⟨(some 25), .mv (.t 4), none⟩,
  ⟨(some 26), .bin .add (.t 25) (.k (.c (.int .i64 1))), none⟩,
  ⟨(some 4), .mv (.t 26), none⟩]
def b_vote_runs_1_5 : IC := (.seq (.seq (.ops o_vote_runs_1_3) (.cond (.t 24) .skip (.exit 2))) (.block 3 (.ops o_vote_runs_1_4)))
abbrev o_vote_runs_1_6 : List IOper := [⟨(some 27), .mv (.t 0), none⟩,
  ⟨(some 28), .mv (.t 3), none⟩,
  ⟨(some 29), .iaS 1 (.t 28) (.k (.c (.int .i64 0))), none⟩,
  ⟨(some 30), .ld none (.t 29), none⟩,
  ⟨(some 31), .mv (.t 4), none⟩,
  ⟨(some 32), .call (.t 27) [(.t 30), (.t 31)], none⟩,
  ⟨(some 33), .un .not (.t 32), none⟩]
abbrev o_vote_runs_1_7 : List IOper := [⟨(some 34), .mv (.t 3), none⟩,
  ⟨(some 35), .mv (.t 4), none⟩,
  ⟨(some 36), .slS 1 (.t 34) (some (.t 35)) none none, none⟩,
  ⟨(some 3), .mv (.t 36), none⟩]
def b_vote_runs_1_8 : IC := (.seq (.seq (.ops o_vote_runs_1_1) (.cond (.t 10) .skip (.exit 0))) (.block 1 (.seq (.ops o_vote_runs_1_2) (.seq (.block 2 (.loop b_vote_runs_1_5)) (.seq (.seq (.ops o_vote_runs_1_6) (.cond (.t 33) .ret .skip)) (.ops o_vote_runs_1_7))))))
def c_vote_runs_1 : IC := (.seq (.ops o_vote_runs_1_0) (.block 0 (.loop b_vote_runs_1_8)))
def i_vote_runs_1 : IFn := ⟨37, c_vote_runs_1, []⟩

-- F 36 slices.AppendSeq[[]int,int]: bads 0, calls []
abbrev o_slices_AppendSeq_int_int_0 : List IOper := [⟨(some 2), .box 22 (.t 0), none⟩,
  ⟨(some 4), .mv (.k (.c (.sl none 0 0 false))), none⟩]
abbrev o_slices_AppendSeq_int_int_1 : List IOper := [⟨(some 6), .mv (.t 1), none⟩]
abbrev o_slices_AppendSeq_int_int_2 : List IOper := [⟨(some 5), .mv (.t 7), none⟩]
abbrev o_slices_AppendSeq_int_int_3 : List IOper := [⟨(some 8), .ld none (.t 2), none⟩,
  ⟨(some 9), .mv (.t 5), none⟩,
  ⟨(some 10), .bsl 3 1 [(.int .i64 0)] [(0, 1, (.t 9))], none⟩,
  ⟨(some 11), .app 3 1 8 (.t 8) (.t 10), none⟩,
  ⟨none, .st 1 (.t 2) (.t 11), none⟩]
def a_slices_AppendSeq_int_int_4 : IC := (.ops o_slices_AppendSeq_int_int_2)
def b_slices_AppendSeq_int_int_5 : IC := (.block 1 (.ops o_slices_AppendSeq_int_int_3))
abbrev o_slices_AppendSeq_int_int_6 : List IOper := [⟨(some 12), .ld none (.t 2), none⟩,
  ⟨(some 4), .mv (.t 12), none⟩]
def c_slices_AppendSeq_int_int : IC := (.seq (.ops o_slices_AppendSeq_int_int_0) (.seq (.seq (.ops o_slices_AppendSeq_int_int_1) (.block 0 (.rangeF (.t 6) [7] a_slices_AppendSeq_int_int_4 b_slices_AppendSeq_int_int_5))) (.seq (.ops o_slices_AppendSeq_int_int_6) .ret)))
def i_slices_AppendSeq_int_int : IFn := ⟨13, c_slices_AppendSeq_int_int, [(4, none)]⟩

def X : FuncId → Option (List V → Heap → Option (V × Heap)) := fun f => if f = fn_slices_Sort_int_int then some sortX else none
def fs : List (Nat × IFn) := [(fn_rotalaw22_VoteMiddles, i_rotalaw22_VoteMiddles), (fn_rotalaw22_VoteCounts, i_rotalaw22_VoteCounts), (fn_rotalaw22_VoteAgrees, i_rotalaw22_VoteAgrees), (fn_rotalaw22_VoteRight, i_rotalaw22_VoteRight), (fn_rotalaw22_VoteSame, i_rotalaw22_VoteSame), (fn_rotalaw22_VoteShifts, i_rotalaw22_VoteShifts), (fn_vote_Median, i_vote_Median), (fn_vote_Trim, i_vote_Trim), (fn_rotaref22_Trim, i_rotaref22_Trim), (fn_vote_Middle, i_vote_Middle), (fn_rotaref22_Middle, i_rotaref22_Middle), (fn_rotaref22_At, i_rotaref22_At), (fn_rotaref22_Ints, i_rotaref22_Ints), (fn_vote_Plural, i_vote_Plural), (fn_rotaref22_Plural, i_rotaref22_Plural), (fn_vote_Majority, i_vote_Majority), (fn_vote_Agree, i_vote_Agree), (fn_rotaref22_Agree, i_rotaref22_Agree), (fn_rotalaw22_alive, i_rotalaw22_alive), (fn_rotalaw22_turned, i_rotalaw22_turned), (fn_slices_Sorted_int, i_slices_Sorted_int), (fn_slices_Values_int_int, i_slices_Values_int_int), (fn_rotaref22_halves, i_rotaref22_halves), (fn_rotaref22_count, i_rotaref22_count), (fn_vote_runs, i_vote_runs), (fn_vote_Agree_1, i_vote_Agree_1), (fn_vote_apart, i_vote_apart), (fn_rotaref22_within, i_rotaref22_within), (fn_slices_Collect_int, i_slices_Collect_int), (fn_slices_Values_int_int_1, i_slices_Values_int_int_1), (fn_vote_runs_1, i_vote_runs_1), (fn_slices_AppendSeq_int_int, i_slices_AppendSeq_int_int)]
def F : FuncId → Option Fun := funsX fs X
theorem e_rotalaw22_VoteMiddles : F fn_rotalaw22_VoteMiddles = some (.code ⟨109, c_rotalaw22_VoteMiddles, [(4, none)]⟩) := by rfl
theorem e_rotalaw22_VoteCounts : F fn_rotalaw22_VoteCounts = some (.code ⟨65, c_rotalaw22_VoteCounts, [(2, none)]⟩) := by rfl
theorem e_rotalaw22_VoteAgrees : F fn_rotalaw22_VoteAgrees = some (.code ⟨28, c_rotalaw22_VoteAgrees, [(4, none)]⟩) := by rfl
theorem e_rotalaw22_VoteRight : F fn_rotalaw22_VoteRight = some (.code ⟨124, c_rotalaw22_VoteRight, [(6, none)]⟩) := by rfl
theorem e_rotalaw22_VoteSame : F fn_rotalaw22_VoteSame = some (.code ⟨121, c_rotalaw22_VoteSame, [(6, none)]⟩) := by rfl
theorem e_rotalaw22_VoteShifts : F fn_rotalaw22_VoteShifts = some (.code ⟨166, c_rotalaw22_VoteShifts, [(8, none)]⟩) := by rfl
theorem e_vote_Median : F fn_vote_Median = some (.code ⟨16, c_vote_Median, [(2, none), (3, none)]⟩) := by rfl
theorem e_vote_Trim : F fn_vote_Trim = some (.code ⟨38, c_vote_Trim, [(4, none), (5, none), (6, none)]⟩) := by rfl
theorem e_rotaref22_Trim : F fn_rotaref22_Trim = some (.code ⟨36, c_rotaref22_Trim, [(4, none), (5, none), (6, none)]⟩) := by rfl
theorem e_vote_Middle : F fn_vote_Middle = some (.code ⟨27, c_vote_Middle, [(4, none), (5, none)]⟩) := by rfl
theorem e_rotaref22_Middle : F fn_rotaref22_Middle = some (.code ⟨21, c_rotaref22_Middle, [(4, none), (5, none)]⟩) := by rfl
theorem e_rotaref22_At : F fn_rotaref22_At = some (.code ⟨37, c_rotaref22_At, [(4, none)]⟩) := by rfl
theorem e_rotaref22_Ints : F fn_rotaref22_Ints = some (.code ⟨26, c_rotaref22_Ints, [(4, none)]⟩) := by rfl
theorem e_vote_Plural : F fn_vote_Plural = some (.code ⟨17, c_vote_Plural, [(2, (some none)), (3, (some none))]⟩) := by rfl
theorem e_rotaref22_Plural : F fn_rotaref22_Plural = some (.code ⟨47, c_rotaref22_Plural, [(2, none), (3, none)]⟩) := by rfl
theorem e_vote_Majority : F fn_vote_Majority = some (.code ⟨18, c_vote_Majority, [(2, none), (3, none)]⟩) := by rfl
theorem e_vote_Agree : F fn_vote_Agree = some (.code ⟨26, c_vote_Agree, [(4, none)]⟩) := by rfl
theorem e_rotaref22_Agree : F fn_rotaref22_Agree = some (.code ⟨64, c_rotaref22_Agree, [(4, none)]⟩) := by rfl
theorem e_rotalaw22_alive : F fn_rotalaw22_alive = some (.code ⟨27, c_rotalaw22_alive, [(0, none)]⟩) := by rfl
theorem e_rotalaw22_turned : F fn_rotalaw22_turned = some (.code ⟨27, c_rotalaw22_turned, [(4, none)]⟩) := by rfl
theorem e_slices_Sorted_int : F fn_slices_Sorted_int = some (.code ⟨9, c_slices_Sorted_int, [(2, none)]⟩) := by rfl
theorem e_slices_Values_int_int : F fn_slices_Values_int_int = some (.code ⟨4, c_slices_Values_int_int, [(2, none)]⟩) := by rfl
theorem e_rotaref22_halves : F fn_rotaref22_halves = some (.code ⟨34, c_rotaref22_halves, [(4, none)]⟩) := by rfl
theorem e_rotaref22_count : F fn_rotaref22_count = some (.code ⟨33, c_rotaref22_count, [(4, none), (5, none)]⟩) := by rfl
theorem e_vote_runs : F fn_vote_runs = some (.code ⟨4, c_vote_runs, [(2, none)]⟩) := by rfl
theorem e_vote_Agree_1 : F fn_vote_Agree_1 = some (.code ⟨32, c_vote_Agree_1, [(4, none)]⟩) := by rfl
theorem e_vote_apart : F fn_vote_apart = some (.code ⟨10, c_vote_apart, [(4, none)]⟩) := by rfl
theorem e_rotaref22_within : F fn_rotaref22_within = some (.code ⟨31, c_rotaref22_within, [(6, none)]⟩) := by rfl
theorem e_slices_Collect_int : F fn_slices_Collect_int = some (.code ⟨5, c_slices_Collect_int, [(2, none)]⟩) := by rfl
theorem e_slices_Values_int_int_1 : F fn_slices_Values_int_int_1 = some (.code ⟨16, c_slices_Values_int_int_1, []⟩) := by rfl
theorem e_vote_runs_1 : F fn_vote_runs_1 = some (.code ⟨37, c_vote_runs_1, []⟩) := by rfl
theorem e_slices_AppendSeq_int_int : F fn_slices_AppendSeq_int_int = some (.code ⟨13, c_slices_AppendSeq_int_int, [(4, none)]⟩) := by rfl
end Go.Proofs.Ytcjonjncekcfhaa.AM.D22
