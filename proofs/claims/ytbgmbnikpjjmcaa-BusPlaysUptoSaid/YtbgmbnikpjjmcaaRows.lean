/-
  No cell of these rows narrows 'for every input' (looked for: loops, veiled, ifaces, maps, wideKeys, modest, calm, conditions, laid).
  DERIVED. THE GIVEN ROWS OF THIS SEAT. 3 by the template 'for every input the law returns true; each argument reads behind the call as it read before'; 0 by the template 'total and deterministic' (their statements: YtbgmbnikpjjmcaaTotals.lean).
  GIVEN WITH THE SEED: the statements are not yours to turn. If you find one false, say at which input.
  Laid BY PROGRAM, IN A SANDBOX (cutbox-rows.mjs): the forced cells as the released guide's own fill.sh prints them over the translation d6e604de40b72cae… (all of the seat's roots in one cut). By AI agents, Wed Nov 11 2026. No macro, syntax, notation, axiom, sorry.
-/
import Derived.Test.YtbgmbnikpjjmcaaChecked
import GoSem.Claim
import GoSem.ClaimJoined
import GoSem.ClaimMapViews
import Derived.JoinedTies
import Derived.KernelRfl
namespace Go.Proofs.Ytbgmbnikpjjmcaa
/- THE CELL 'sum', in the pinned program and in every row, IS THE sha256 OF THE DUMP (.gsa) THAT YtbgmbnikpjjmcaaProg.lean LOADS. Nothing in Lean hashes anything: it is a label: what it is worth is what the hold of that sum in a sandbox is worth. -/
noncomputable def Try.pinned : Pinned := { name := "ytbgmbnikpjjmcaa", sum := "d6e604de40b72cae4e41a75e96ca5de4086e177ecdf4a0971854b87b16701fd9", checked := Try.checked }
namespace Rows
def none {H : Type} : Left H := { results := [], args := [] }

/-- 'rotalaw07.BusPlays': WHATEVER THE INPUT: true; the input reads as it did. -/
def busPlaysSpec : ChangeSpec := { name := "busPlays", fn := fun _ => fun
  | [d1, d2] => { results := [.lit (.bool true)], args := [d1, d2] }
  | _ => none }
def busPlaysRow : OpenClaim := { program := "ytbgmbnikpjjmcaa", sum := "d6e604de40b72cae4e41a75e96ca5de4086e177ecdf4a0971854b87b16701fd9", func := "rota/rotalaw07.BusPlays", spec := "busPlays", inPlace := ["sync/atomic.AddUint64", "sync/atomic.LoadUint64"], unfollowed := true, recurses := true, apart := false }
def BusPlaysSaid : Prop := busPlaysRow.holds Try.pinned (OpenSpec.ofChange busPlaysSpec)

/-- ITS FALSE NEIGHBOUR: 'it returns false'. Refute it at one input. -/
def busPlaysWrong : ChangeSpec := { name := "busPlays", fn := fun _ => fun
  | [d1, d2] => { results := [.lit (.bool false)], args := [d1, d2] }
  | _ => none }
def BusPlaysWrongFalsely : Prop := busPlaysRow.holds Try.pinned (OpenSpec.ofChange busPlaysWrong)

/-- 'rotalaw07.BusNames': WHATEVER THE INPUT: true; the input reads as it did. -/
def busNamesSpec : ChangeSpec := { name := "busNames", fn := fun _ => fun
  | [] => { results := [.lit (.bool true)], args := [] }
  | _ => none }
def busNamesRow : OpenClaim := { program := "ytbgmbnikpjjmcaa", sum := "d6e604de40b72cae4e41a75e96ca5de4086e177ecdf4a0971854b87b16701fd9", func := "rota/rotalaw07.BusNames", spec := "busNames", inPlace := ["sync/atomic.AddUint64", "sync/atomic.LoadUint64"], unfollowed := true, recurses := true, apart := false }
def BusNamesSaid : Prop := busNamesRow.holds Try.pinned (OpenSpec.ofChange busNamesSpec)

/-- ITS FALSE NEIGHBOUR: 'it returns false'. Refute it at one input. -/
def busNamesWrong : ChangeSpec := { name := "busNames", fn := fun _ => fun
  | [] => { results := [.lit (.bool false)], args := [] }
  | _ => none }
def BusNamesWrongFalsely : Prop := busNamesRow.holds Try.pinned (OpenSpec.ofChange busNamesWrong)

/-- 'rotalaw07.BusGate': WHATEVER THE INPUT: true; the input reads as it did. -/
def busGateSpec : ChangeSpec := { name := "busGate", fn := fun _ => fun
  | [d1, d2, d3] => { results := [.lit (.bool true)], args := [d1, d2, d3] }
  | _ => none }
def busGateRow : OpenClaim := { program := "ytbgmbnikpjjmcaa", sum := "d6e604de40b72cae4e41a75e96ca5de4086e177ecdf4a0971854b87b16701fd9", func := "rota/rotalaw07.BusGate", spec := "busGate", inPlace := ["sync/atomic.AddUint64", "sync/atomic.LoadUint64"], unfollowed := true, recurses := true, apart := false }
def BusGateSaid : Prop := busGateRow.holds Try.pinned (OpenSpec.ofChange busGateSpec)

/-- ITS FALSE NEIGHBOUR: 'it returns false'. Refute it at one input. -/
def busGateWrong : ChangeSpec := { name := "busGate", fn := fun _ => fun
  | [d1, d2, d3] => { results := [.lit (.bool false)], args := [d1, d2, d3] }
  | _ => none }
def BusGateWrongFalsely : Prop := busGateRow.holds Try.pinned (OpenSpec.ofChange busGateWrong)

/- THE SECOND FORM. 'bulk': how many values and letters a reading holds, each counted each time it is reached (what is shared counts as often as it is met; a slice's spare places count too). A statement '..UptoSaid' is the law's where the arguments, and the package variables that the reading takes, are together of bulk at most 1048576: NARROWER than '..Said'. Prove '..Said' where nothing that the law and all that it calls make is longer than what came in: it says more and counts as full. Else prove '..UptoSaid'. A law counts once. -/
mutual
def uptoBulk {H : Type} : DataW H → Nat
  | .lit (.string bytes) => bytes.length + 1
  | .lit _ => 1
  | .nil => 1
  | .ptr d => uptoBulk d + 1
  | .slice elems spare => uptoBulkAll elems + uptoBulkAll spare + 1
  | .agg parts => uptoBulkAll parts + 1
  | .iface _ d => uptoBulk d + 1
  | .map entries => uptoBulkEntries entries + 1
  | .held _ => 1
def uptoBulkAll {H : Type} : List (DataW H) → Nat
  | [] => 0
  | d :: r => uptoBulk d + uptoBulkAll r
def uptoBulkEntries {H : Type} : List (Lit × DataW H) → Nat
  | [] => 0
  | x :: r => uptoBulkEntry x + uptoBulkEntries r
def uptoBulkEntry {H : Type} : Lit × DataW H → Nat
  | (.string bytes, d) => bytes.length + uptoBulk d + 1
  | (_, d) => uptoBulk d + 1
 end
def uptoSmall : (H : Type) → List (DataW H) → Bool := fun _ ds => decide (uptoBulkAll ds ≤ 1048576)
def OpenSpec.upto (s : _root_.Go.ChangeSpec) : _root_.Go.OpenSpec := { _root_.Go.OpenSpec.ofChange s with cond := some uptoSmall }

/-- 'rotalaw07.BusPlays', WHERE WHAT IT READS IS OF BULK AT MOST 1048576: true; the input reads as it did. -/
def busPlaysUptoRow : OpenClaim := { program := "ytbgmbnikpjjmcaa", sum := "d6e604de40b72cae4e41a75e96ca5de4086e177ecdf4a0971854b87b16701fd9", func := "rota/rotalaw07.BusPlays", spec := "busPlays", inPlace := ["sync/atomic.AddUint64", "sync/atomic.LoadUint64"], unfollowed := true, recurses := true, apart := false, narrowed := true }
def BusPlaysUptoSaid : Prop := busPlaysUptoRow.holds Try.pinned (OpenSpec.upto busPlaysSpec)

/-- 'rotalaw07.BusNames', WHERE WHAT IT READS IS OF BULK AT MOST 1048576: true; the input reads as it did. -/
def busNamesUptoRow : OpenClaim := { program := "ytbgmbnikpjjmcaa", sum := "d6e604de40b72cae4e41a75e96ca5de4086e177ecdf4a0971854b87b16701fd9", func := "rota/rotalaw07.BusNames", spec := "busNames", inPlace := ["sync/atomic.AddUint64", "sync/atomic.LoadUint64"], unfollowed := true, recurses := true, apart := false, narrowed := true }
def BusNamesUptoSaid : Prop := busNamesUptoRow.holds Try.pinned (OpenSpec.upto busNamesSpec)

/-- 'rotalaw07.BusGate', WHERE WHAT IT READS IS OF BULK AT MOST 1048576: true; the input reads as it did. -/
def busGateUptoRow : OpenClaim := { program := "ytbgmbnikpjjmcaa", sum := "d6e604de40b72cae4e41a75e96ca5de4086e177ecdf4a0971854b87b16701fd9", func := "rota/rotalaw07.BusGate", spec := "busGate", inPlace := ["sync/atomic.AddUint64", "sync/atomic.LoadUint64"], unfollowed := true, recurses := true, apart := false, narrowed := true }
def BusGateUptoSaid : Prop := busGateUptoRow.holds Try.pinned (OpenSpec.upto busGateSpec)

end Rows
end Go.Proofs.Ytbgmbnikpjjmcaa
