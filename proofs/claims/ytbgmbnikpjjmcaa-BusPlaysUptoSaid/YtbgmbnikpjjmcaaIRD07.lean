/- The functions of these laws as the abstract machine's code, printed by a program of this claim's. -/
import Derived.Test.YtbgmbnikpjjmcaaIRD07a
set_option linter.unusedVariables false
set_option linter.unusedSimpArgs false
set_option linter.unusedSectionVars false
namespace Go.Proofs.Ytbgmbnikpjjmcaa.AM.D07
open Go Go.Proofs.Ytbgmbnikpjjmcaa.AM
-- F 58 rota/config.Precision: bads 0, calls []
abbrev o_config_Precision_0 : List IOper := [⟨(some 1), .box 28 (.t 0), none⟩,
  ⟨(some 2), .mv (.k (.c (.int .i64 0))), none⟩]
abbrev o_config_Precision_1 : List IOper := [⟨(some 3), .fa 2 (.t 1), none⟩,
  ⟨(some 4), .ld none (.t 3), none⟩,
  ⟨(some 5), .fa 3 (.t 1), none⟩,
  ⟨(some 6), .ld none (.t 5), none⟩,
  ⟨(some 7), .bin .add (.t 4) (.t 6), none⟩,
  ⟨(some 8), .bin .mul (.k (.c (.int .i64 2))) (.t 7), none⟩,
  ⟨(some 9), .bin .add (.t 8) (.k (.c (.int .i64 1))), none⟩,
  ⟨(some 2), .mv (.t 9), none⟩]
def c_config_Precision : IC := (.seq (.ops o_config_Precision_0) (.seq (.ops o_config_Precision_1) .ret))
def i_config_Precision : IFn := ⟨10, c_config_Precision, [(2, none)]⟩

-- F 59 rota/config.pairs: bads 0, calls [63]
abbrev o_config_pairs_0 : List IOper := [⟨(some 1), .box 3 (.t 0), none⟩,
  ⟨(some 2), .mv (.k (.c .nilFn)), none⟩]
abbrev o_config_pairs_1 : List IOper := [⟨(some 3), .mkfn fn_config_pairs_1 [] [(.t 1)], none⟩,
  ⟨(some 2), .mv (.t 3), none⟩]
def c_config_pairs : IC := (.seq (.ops o_config_pairs_0) (.seq (.ops o_config_pairs_1) .ret))
def i_config_pairs : IFn := ⟨4, c_config_pairs, [(2, none)]⟩

-- F 60 rota/config.meet: bads 0, calls []
abbrev o_config_meet_0 : List IOper := [⟨(some 8), .mv (.k (.c (.bool false))), none⟩]
abbrev o_config_meet_1 : List IOper := [⟨(some 9), .mv (.t 0), none⟩,
  ⟨(some 10), .mv (.t 2), none⟩,
  ⟨(some 11), .mx (.t 9) [(.t 10)], none⟩,
  ⟨(some 12), .mv (.t 1), none⟩,
  ⟨(some 13), .mv (.t 3), none⟩,
  ⟨(some 14), .mn (.t 12) [(.t 13)], none⟩,
  ⟨(some 15), .bin .lss (.t 11) (.t 14), none⟩,
  ⟨(some 8), .mv (.t 15), none⟩]
def c_config_meet : IC := (.seq (.ops o_config_meet_0) (.seq (.ops o_config_meet_1) .ret))
def i_config_meet : IFn := ⟨16, c_config_meet, [(8, none)]⟩

-- F 61 rota/config.port: bads 0, calls [56]
abbrev o_config_port_0 : List IOper := [⟨(some 2), .box 28 (.t 0), none⟩,
  ⟨(some 4), .new 98 (.agg (List.replicate 6 (.int .i64 0))), none⟩,
  ⟨(some 5), .mv (.k (.c (.bool false))), none⟩]
abbrev o_config_port_1 : List IOper := [⟨(some 6), .mv (.t 1), none⟩,
  ⟨(some 7), .fa 10 (.t 2), none⟩,
  ⟨(some 8), .ld none (.t 7), none⟩,
  ⟨(some 9), .len false (.t 8), none⟩,
  ⟨(some 10), .bin .sub (.t 9) (.k (.c (.int .i64 1))), none⟩,
  ⟨(some 11), .call (.k (.c (.fn fn_config_within [] []))) [(.t 6), (.k (.c (.int .i64 0))), (.t 10)], none⟩,
  ⟨(some 12), .un .not (.t 11), none⟩]
abbrev o_config_port_2 : List IOper := [⟨(some 13), .build (List.replicate 6 (.int .i64 0)) [], none⟩,
  ⟨none, .st 6 (.t 4) (.t 13), none⟩,
  ⟨(some 5), .mv (.k (.c (.bool false))), none⟩]
abbrev o_config_port_3 : List IOper := [⟨(some 14), .fa 10 (.t 2), none⟩,
  ⟨(some 15), .ld none (.t 14), none⟩,
  ⟨(some 16), .mv (.t 1), none⟩,
  ⟨(some 17), .iaS 6 (.t 15) (.t 16), none⟩,
  ⟨(some 18), .ld (some 6) (.t 17), none⟩,
  ⟨none, .st 6 (.t 4) (.t 18), none⟩,
  ⟨(some 5), .mv (.k (.c (.bool true))), none⟩]
def c_config_port : IC := (.seq (.ops o_config_port_0) (.seq (.seq (.ops o_config_port_1) (.cond (.t 12) (.seq (.ops o_config_port_2) .ret) .skip)) (.seq (.ops o_config_port_3) .ret)))
def i_config_port : IFn := ⟨19, c_config_port, [(4, (some (some 6))), (5, none)]⟩

-- F 62 slices.Index[[]int,int]: bads 0, calls []
abbrev o_slices_Index_int_int_0 : List IOper := [⟨(some 4), .mv (.k (.c (.int .i64 0))), none⟩]
abbrev o_slices_Index_int_int_1 : List IOper := [⟨(some 6), .mv (.t 0), none⟩,
  ⟨(some 7), .len false (.t 6), none⟩,
  ⟨(some 8), .mv (.k (.c (.int .i64 0))), none⟩]
abbrev o_slices_Index_int_int_2 : List IOper := [⟨(some 9), .bin .lss (.t 8) (.t 7), none⟩]
abbrev o_slices_Index_int_int_3 : List IOper := [⟨(some 10), .mv (.t 8), none⟩,
  ⟨(some 5), .mv (.t 10), none⟩]
abbrev o_slices_Index_int_int_4 : List IOper := [⟨(some 11), .mv (.t 1), none⟩,
  ⟨(some 12), .mv (.t 0), none⟩,
  ⟨(some 13), .mv (.t 5), none⟩,
  ⟨(some 14), .iaS 1 (.t 12) (.t 13), none⟩,
  ⟨(some 15), .ld none (.t 14), none⟩,
  ⟨(some 16), .bin .eql (.t 11) (.t 15), none⟩]
abbrev o_slices_Index_int_int_5 : List IOper := [⟨(some 17), .mv (.t 5), none⟩,
  ⟨(some 4), .mv (.t 17), none⟩]
abbrev o_slices_Index_int_int_6 : List IOper := [⟨(some 18), .bin .add (.t 8) (.k (.c (.int .i64 1))), none⟩,
  ⟨(some 8), .mv (.t 18), none⟩]
def b_slices_Index_int_int_7 : IC := (.seq (.ops o_slices_Index_int_int_2) (.seq (.cond (.t 9) .skip (.exit 0)) (.seq (.block 1 (.seq (.ops o_slices_Index_int_int_3) (.seq (.ops o_slices_Index_int_int_4) (.cond (.t 16) (.seq (.ops o_slices_Index_int_int_5) .ret) .skip)))) (.ops o_slices_Index_int_int_6))))
abbrev o_slices_Index_int_int_8 : List IOper := [⟨(some 4), .mv (.k (.c (.int .i64 (-1)))), none⟩]
def c_slices_Index_int_int : IC := (.seq (.ops o_slices_Index_int_int_0) (.seq (.seq (.ops o_slices_Index_int_int_1) (.block 0 (.loop b_slices_Index_int_int_7))) (.seq (.ops o_slices_Index_int_int_8) .ret)))
def i_slices_Index_int_int : IFn := ⟨19, c_slices_Index_int_int, [(4, none)]⟩

-- F 63 rota/config.pairs$1: bads 0, calls []
abbrev o_config_pairs_1_0 : List IOper := [⟨(some 5), .ld none (.t 1), none⟩,
  ⟨(some 6), .mv (.k (.c (.int .i64 0))), none⟩]
abbrev o_config_pairs_1_1 : List IOper := [⟨(some 7), .bin .lss (.t 6) (.t 5), none⟩]
abbrev o_config_pairs_1_2 : List IOper := [⟨(some 8), .mv (.t 6), none⟩,
  ⟨(some 3), .mv (.t 8), none⟩]
abbrev o_config_pairs_1_3 : List IOper := [⟨(some 9), .mv (.t 3), none⟩,
  ⟨(some 10), .mv (.k (.c (.int .i64 0))), none⟩]
abbrev o_config_pairs_1_4 : List IOper := [⟨(some 11), .bin .lss (.t 10) (.t 9), none⟩]
abbrev o_config_pairs_1_5 : List IOper := [⟨(some 12), .mv (.t 10), none⟩,
  ⟨(some 4), .mv (.t 12), none⟩]
abbrev o_config_pairs_1_6 : List IOper := [⟨(some 13), .mv (.t 0), none⟩,
  ⟨(some 14), .mv (.t 4), none⟩,
  ⟨(some 15), .mv (.t 3), none⟩,
  ⟨(some 16), .call (.t 13) [(.t 14), (.t 15)], none⟩,
  ⟨(some 17), .un .not (.t 16), none⟩]
abbrev o_config_pairs_1_7 : List IOper := [⟨(some 18), .bin .add (.t 10) (.k (.c (.int .i64 1))), none⟩,
  ⟨(some 10), .mv (.t 18), none⟩]
def b_config_pairs_1_8 : IC := (.seq (.ops o_config_pairs_1_4) (.seq (.cond (.t 11) .skip (.exit 2)) (.seq (.block 3 (.seq (.ops o_config_pairs_1_5) (.seq (.ops o_config_pairs_1_6) (.cond (.t 17) (.exit 0) .skip)))) (.ops o_config_pairs_1_7))))
abbrev o_config_pairs_1_9 : List IOper := [⟨(some 19), .bin .add (.t 6) (.k (.c (.int .i64 1))), none⟩,
  ⟨(some 6), .mv (.t 19), none⟩]
def b_config_pairs_1_10 : IC := (.seq (.ops o_config_pairs_1_1) (.seq (.cond (.t 7) .skip (.exit 0)) (.seq (.block 1 (.seq (.ops o_config_pairs_1_2) (.seq (.ops o_config_pairs_1_3) (.block 2 (.loop b_config_pairs_1_8))))) (.ops o_config_pairs_1_9))))
def c_config_pairs_1 : IC := (.seq .skip (.seq .skip (.seq (.ops o_config_pairs_1_0) (.block 0 (.loop b_config_pairs_1_10)))))
def i_config_pairs_1 : IFn := ⟨20, c_config_pairs_1, []⟩
def X : FuncId → Option (List V → Heap → Option (V × Heap)) := fun f => if f = fn_atomic_LoadUint64 then some loadX else if f = fn_atomic_AddUint64 then some addX else none
def fs : List (Nat × IFn) := [(fn_rotalaw07_BusPlays, i_rotalaw07_BusPlays), (fn_rotalaw07_BusNames, i_rotalaw07_BusNames), (fn_rotalaw07_BusGate, i_rotalaw07_BusGate), (fn_rotalaw07_great, i_rotalaw07_great), (fn_bus_New, i_bus_New), (fn_rotaref07_New, i_rotaref07_New), (fn_bus_Bus_Pass, i_bus_Bus_Pass), (fn_rotaref07_Bus_Pass, i_rotaref07_Bus_Pass), (fn_rotaref07_Bytes, i_rotaref07_Bytes), (fn_bus_Bus_Carry, i_bus_Bus_Carry), (fn_rotaref07_Bus_Carry, i_rotaref07_Bus_Carry), (fn_rotalaw07_same, i_rotalaw07_same), (fn_bus_Bus_Blocked, i_bus_Bus_Blocked), (fn_bus_Bus_Passed, i_bus_Bus_Passed), (fn_rotalaw07_Four, i_rotalaw07_Four), (fn_rotalaw07_alive, i_rotalaw07_alive), (fn_config_Check, i_config_Check), (fn_slices_Clone_int_int, i_slices_Clone_int_int), (fn_rotaref02_Check, i_rotaref02_Check), (fn_bus_Bus_pass, i_bus_Bus_pass), (fn_slices_Clone_byte_byte, i_slices_Clone_byte_byte), (fn_rotaref07_Bus_owner, i_rotaref07_Bus_owner), (fn_bus_Bus_Carry_1, i_bus_Bus_Carry_1), (fn_bus_Bus_owner, i_bus_Bus_owner), (fn_frame_Corrupt, i_frame_Corrupt), (fn_rotaref07_turned, i_rotaref07_turned), (fn_atomic_Uint64_Load, i_atomic_Uint64_Load), (fn_config_fine, i_config_fine), (fn_rotaref02_nodes, i_rotaref02_nodes), (fn_rotaref02_clock, i_rotaref02_clock), (fn_rotaref02_parts, i_rotaref02_parts), (fn_rotaref02_windows, i_rotaref02_windows), (fn_rotaref02_ports, i_rotaref02_ports), (fn_rotaref02_links, i_rotaref02_links), (fn_slices_IndexFunc_api_Send_api_Send, i_slices_IndexFunc_api_Send_api_Send), (fn_bus_Bus_pass_1, i_bus_Bus_pass_1), (fn_atomic_Uint64_Add, i_atomic_Uint64_Add), (fn_frame_bits, i_frame_bits), (fn_rotaref07_bit, i_rotaref07_bit), (fn_config_nodes, i_config_nodes), (fn_config_clocks, i_config_clocks), (fn_config_parts, i_config_parts), (fn_config_windows, i_config_windows), (fn_config_ports, i_config_ports), (fn_config_links, i_config_links), (fn_rotaref02_count, i_rotaref02_count), (fn_rotaref02_Precision, i_rotaref02_Precision), (fn_rotaref02_meet, i_rotaref02_meet), (fn_rotaref02_Alone, i_rotaref02_Alone), (fn_rotaref02_is, i_rotaref02_is), (fn_frame_bits_1, i_frame_bits_1), (fn_config_within, i_config_within), (fn_slices_Contains_int_int, i_slices_Contains_int_int), (fn_config_Precision, i_config_Precision), (fn_config_pairs, i_config_pairs), (fn_config_meet, i_config_meet), (fn_config_port, i_config_port), (fn_slices_Index_int_int, i_slices_Index_int_int), (fn_config_pairs_1, i_config_pairs_1)]
def F : FuncId → Option Fun := funsX fs X
theorem e_rotalaw07_BusPlays : F fn_rotalaw07_BusPlays = some (.code ⟨163, c_rotalaw07_BusPlays, [(4, none)]⟩) := by rfl
theorem e_rotalaw07_great : F fn_rotalaw07_great = some (.code ⟨46, c_rotalaw07_great, [(2, none)]⟩) := by rfl
theorem e_bus_New : F fn_bus_New = some (.code ⟨15, c_bus_New, [(2, none), (3, none)]⟩) := by rfl
theorem e_rotaref07_New : F fn_rotaref07_New = some (.code ⟨14, c_rotaref07_New, [(2, (some (some 3))), (3, none)]⟩) := by rfl
theorem e_bus_Bus_Pass : F fn_bus_Bus_Pass = some (.code ⟨20, c_bus_Bus_Pass, [(6, none), (7, none)]⟩) := by rfl
theorem e_rotaref07_Bus_Pass : F fn_rotaref07_Bus_Pass = some (.code ⟨65, c_rotaref07_Bus_Pass, [(6, none), (7, none)]⟩) := by rfl
theorem e_rotaref07_Bytes : F fn_rotaref07_Bytes = some (.code ⟨26, c_rotaref07_Bytes, [(4, none)]⟩) := by rfl
theorem e_bus_Bus_Carry : F fn_bus_Bus_Carry = some (.code ⟨84, c_bus_Bus_Carry, [(8, none), (9, none)]⟩) := by rfl
theorem e_rotaref07_Bus_Carry : F fn_rotaref07_Bus_Carry = some (.code ⟨81, c_rotaref07_Bus_Carry, [(8, none), (9, none), (10, none)]⟩) := by rfl
theorem e_rotalaw07_same : F fn_rotalaw07_same = some (.code ⟨41, c_rotalaw07_same, [(6, none)]⟩) := by rfl
theorem e_bus_Bus_Blocked : F fn_bus_Bus_Blocked = some (.code ⟨9, c_bus_Bus_Blocked, [(2, none)]⟩) := by rfl
theorem e_bus_Bus_Passed : F fn_bus_Bus_Passed = some (.code ⟨9, c_bus_Bus_Passed, [(2, none)]⟩) := by rfl
theorem e_config_Check : F fn_config_Check = some (.code ⟨13, c_config_Check, [(2, none)]⟩) := by rfl
theorem e_slices_Clone_int_int : F fn_slices_Clone_int_int = some (.code ⟨8, c_slices_Clone_int_int, [(2, none)]⟩) := by rfl
theorem e_rotaref02_Check : F fn_rotaref02_Check = some (.code ⟨21, c_rotaref02_Check, [(2, none)]⟩) := by rfl
theorem e_bus_Bus_pass : F fn_bus_Bus_pass = some (.code ⟨44, c_bus_Bus_pass, [(6, none), (7, none)]⟩) := by rfl
theorem e_slices_Clone_byte_byte : F fn_slices_Clone_byte_byte = some (.code ⟨8, c_slices_Clone_byte_byte, [(2, none)]⟩) := by rfl
theorem e_rotaref07_Bus_owner : F fn_rotaref07_Bus_owner = some (.code ⟨20, c_rotaref07_Bus_owner, [(4, none)]⟩) := by rfl
theorem e_bus_Bus_Carry_1 : F fn_bus_Bus_Carry_1 = some (.code ⟨5, c_bus_Bus_Carry_1, [(1, none)]⟩) := by rfl
theorem e_bus_Bus_owner : F fn_bus_Bus_owner = some (.code ⟨32, c_bus_Bus_owner, [(4, none)]⟩) := by rfl
theorem e_frame_Corrupt : F fn_frame_Corrupt = some (.code ⟨48, c_frame_Corrupt, [(6, none)]⟩) := by rfl
theorem e_rotaref07_turned : F fn_rotaref07_turned = some (.code ⟨75, c_rotaref07_turned, [(6, none)]⟩) := by rfl
theorem e_atomic_Uint64_Load : F fn_atomic_Uint64_Load = some (.code ⟨7, c_atomic_Uint64_Load, [(2, none)]⟩) := by rfl
theorem e_config_fine : F fn_config_fine = some (.code ⟨28, c_config_fine, [(4, none)]⟩) := by rfl
theorem e_rotaref02_nodes : F fn_rotaref02_nodes = some (.code ⟨31, c_rotaref02_nodes, [(2, none)]⟩) := by rfl
theorem e_rotaref02_clock : F fn_rotaref02_clock = some (.code ⟨70, c_rotaref02_clock, [(2, none)]⟩) := by rfl
theorem e_rotaref02_parts : F fn_rotaref02_parts = some (.code ⟨90, c_rotaref02_parts, [(2, none)]⟩) := by rfl
theorem e_rotaref02_windows : F fn_rotaref02_windows = some (.code ⟨64, c_rotaref02_windows, [(2, none)]⟩) := by rfl
theorem e_rotaref02_ports : F fn_rotaref02_ports = some (.code ⟨43, c_rotaref02_ports, [(2, none)]⟩) := by rfl
theorem e_rotaref02_links : F fn_rotaref02_links = some (.code ⟨227, c_rotaref02_links, [(2, none)]⟩) := by rfl
theorem e_slices_IndexFunc_api_Send_api_Send : F fn_slices_IndexFunc_api_Send_api_Send = some (.code ⟨19, c_slices_IndexFunc_api_Send_api_Send, [(4, none)]⟩) := by rfl
theorem e_bus_Bus_pass_1 : F fn_bus_Bus_pass_1 = some (.code ⟨12, c_bus_Bus_pass_1, [(3, none)]⟩) := by rfl
theorem e_atomic_Uint64_Add : F fn_atomic_Uint64_Add = some (.code ⟨10, c_atomic_Uint64_Add, [(4, none)]⟩) := by rfl
theorem e_frame_bits : F fn_frame_bits = some (.code ⟨4, c_frame_bits, [(2, none)]⟩) := by rfl
theorem e_rotaref07_bit : F fn_rotaref07_bit = some (.code ⟨16, c_rotaref07_bit, [(4, none)]⟩) := by rfl
theorem e_config_nodes : F fn_config_nodes = some (.code ⟨27, c_config_nodes, [(2, none)]⟩) := by rfl
theorem e_config_clocks : F fn_config_clocks = some (.code ⟨40, c_config_clocks, [(2, none)]⟩) := by rfl
theorem e_config_parts : F fn_config_parts = some (.code ⟨73, c_config_parts, [(2, (some none))]⟩) := by rfl
theorem e_config_windows : F fn_config_windows = some (.code ⟨55, c_config_windows, [(2, none)]⟩) := by rfl
theorem e_config_ports : F fn_config_ports = some (.code ⟨76, c_config_ports, [(2, none)]⟩) := by rfl
theorem e_config_links : F fn_config_links = some (.code ⟨195, c_config_links, [(2, (some none))]⟩) := by rfl
theorem e_rotaref02_count : F fn_rotaref02_count = some (.code ⟨22, c_rotaref02_count, [(4, none)]⟩) := by rfl
theorem e_rotaref02_Precision : F fn_rotaref02_Precision = some (.code ⟨10, c_rotaref02_Precision, [(2, none)]⟩) := by rfl
theorem e_rotaref02_meet : F fn_rotaref02_meet = some (.code ⟨24, c_rotaref02_meet, [(8, none)]⟩) := by rfl
theorem e_rotaref02_Alone : F fn_rotaref02_Alone = some (.code ⟨71, c_rotaref02_Alone, [(2, none)]⟩) := by rfl
theorem e_rotaref02_is : F fn_rotaref02_is = some (.code ⟨14, c_rotaref02_is, [(4, none)]⟩) := by rfl
theorem e_frame_bits_1 : F fn_frame_bits_1 = some (.code ⟨23, c_frame_bits_1, []⟩) := by rfl
theorem e_config_within : F fn_config_within = some (.code ⟨15, c_config_within, [(6, none)]⟩) := by rfl
theorem e_slices_Contains_int_int : F fn_slices_Contains_int_int = some (.code ⟨9, c_slices_Contains_int_int, [(4, none)]⟩) := by rfl
theorem e_config_Precision : F fn_config_Precision = some (.code ⟨10, c_config_Precision, [(2, none)]⟩) := by rfl
theorem e_config_pairs : F fn_config_pairs = some (.code ⟨4, c_config_pairs, [(2, none)]⟩) := by rfl
theorem e_config_meet : F fn_config_meet = some (.code ⟨16, c_config_meet, [(8, none)]⟩) := by rfl
theorem e_config_port : F fn_config_port = some (.code ⟨19, c_config_port, [(4, (some (some 6))), (5, none)]⟩) := by rfl
theorem e_slices_Index_int_int : F fn_slices_Index_int_int = some (.code ⟨19, c_slices_Index_int_int, [(4, none)]⟩) := by rfl
theorem e_config_pairs_1 : F fn_config_pairs_1 = some (.code ⟨20, c_config_pairs_1, []⟩) := by rfl
end Go.Proofs.Ytbgmbnikpjjmcaa.AM.D07
