/-
  No cell of these rows narrows 'for every input' (looked for: loops, veiled, ifaces, maps, wideKeys, modest, calm, conditions, laid).
  DERIVED. THE GIVEN ROWS OF THIS SEAT. 4 by the template 'for every input the law returns true; each argument reads behind the call as it read before'; 0 by the template 'total and deterministic' (their statements: YtikbahcddohijaaTotals.lean).
  GIVEN WITH THE SEED: the statements are not yours to turn. If you find one false, say at which input.
  Laid BY PROGRAM, IN A SANDBOX (cutbox-rows.mjs): the forced cells as the released guide's own fill.sh prints them over the translation 67c703537cccb743… (all of the seat's roots in one cut). By AI agents, Wed Nov 11 2026. No macro, syntax, notation, axiom, sorry.
-/
import Derived.Test.YtikbahcddohijaaChecked
import GoSem.Claim
import GoSem.ClaimJoined
import GoSem.ClaimMapViews
import Derived.JoinedTies
import Derived.KernelRfl
namespace Go.Proofs.Ytikbahcddohijaa
/- THE CELL 'sum', in the pinned program and in every row, IS THE sha256 OF THE DUMP (.gsa) THAT YtikbahcddohijaaProg.lean LOADS. Nothing in Lean hashes anything: it is a label: what it is worth is what the hold of that sum in a sandbox is worth. -/
noncomputable def Try.pinned : Pinned := { name := "ytikbahcddohijaa", sum := "67c703537cccb7431ef73cc2a807c4062c2da0466d4e7445035f7b4affb10130", checked := Try.checked }
namespace Rows
def none {H : Type} : Left H := { results := [], args := [] }

/-- 'rotalaw05.KernRegion': WHATEVER THE INPUT: true; the input reads as it did. -/
def kernRegionSpec : ChangeSpec := { name := "kernRegion", fn := fun _ => fun
  | [d1, d2, d3] => { results := [.lit (.bool true)], args := [d1, d2, d3] }
  | _ => none }
def kernRegionRow : OpenClaim := { program := "ytikbahcddohijaa", sum := "67c703537cccb7431ef73cc2a807c4062c2da0466d4e7445035f7b4affb10130", func := "rota/rotalaw05.KernRegion", spec := "kernRegion", unfollowed := true, recurses := true, apart := false }
def KernRegionSaid : Prop := kernRegionRow.holds Try.pinned (OpenSpec.ofChange kernRegionSpec)

/-- ITS FALSE NEIGHBOUR: 'it returns false'. Refute it at one input. -/
def kernRegionWrong : ChangeSpec := { name := "kernRegion", fn := fun _ => fun
  | [d1, d2, d3] => { results := [.lit (.bool false)], args := [d1, d2, d3] }
  | _ => none }
def KernRegionWrongFalsely : Prop := kernRegionRow.holds Try.pinned (OpenSpec.ofChange kernRegionWrong)

/-- 'rotalaw05.KernStops': WHATEVER THE INPUT: true; the input reads as it did. -/
def kernStopsSpec : ChangeSpec := { name := "kernStops", fn := fun _ => fun
  | [d1, d2, d3] => { results := [.lit (.bool true)], args := [d1, d2, d3] }
  | _ => none }
def kernStopsRow : OpenClaim := { program := "ytikbahcddohijaa", sum := "67c703537cccb7431ef73cc2a807c4062c2da0466d4e7445035f7b4affb10130", func := "rota/rotalaw05.KernStops", spec := "kernStops", unfollowed := true, recurses := true, apart := false }
def KernStopsSaid : Prop := kernStopsRow.holds Try.pinned (OpenSpec.ofChange kernStopsSpec)

/-- ITS FALSE NEIGHBOUR: 'it returns false'. Refute it at one input. -/
def kernStopsWrong : ChangeSpec := { name := "kernStops", fn := fun _ => fun
  | [d1, d2, d3] => { results := [.lit (.bool false)], args := [d1, d2, d3] }
  | _ => none }
def KernStopsWrongFalsely : Prop := kernStopsRow.holds Try.pinned (OpenSpec.ofChange kernStopsWrong)

/-- 'rotalaw05.KernPlays': WHATEVER THE INPUT: true; the input reads as it did. -/
def kernPlaysSpec : ChangeSpec := { name := "kernPlays", fn := fun _ => fun
  | [d1, d2, d3] => { results := [.lit (.bool true)], args := [d1, d2, d3] }
  | _ => none }
def kernPlaysRow : OpenClaim := { program := "ytikbahcddohijaa", sum := "67c703537cccb7431ef73cc2a807c4062c2da0466d4e7445035f7b4affb10130", func := "rota/rotalaw05.KernPlays", spec := "kernPlays", unfollowed := true, recurses := true, apart := false }
def KernPlaysSaid : Prop := kernPlaysRow.holds Try.pinned (OpenSpec.ofChange kernPlaysSpec)

/-- ITS FALSE NEIGHBOUR: 'it returns false'. Refute it at one input. -/
def kernPlaysWrong : ChangeSpec := { name := "kernPlays", fn := fun _ => fun
  | [d1, d2, d3] => { results := [.lit (.bool false)], args := [d1, d2, d3] }
  | _ => none }
def KernPlaysWrongFalsely : Prop := kernPlaysRow.holds Try.pinned (OpenSpec.ofChange kernPlaysWrong)

/-- 'rotalaw05.KernNames': WHATEVER THE INPUT: true; the input reads as it did. -/
def kernNamesSpec : ChangeSpec := { name := "kernNames", fn := fun _ => fun
  | [] => { results := [.lit (.bool true)], args := [] }
  | _ => none }
def kernNamesRow : OpenClaim := { program := "ytikbahcddohijaa", sum := "67c703537cccb7431ef73cc2a807c4062c2da0466d4e7445035f7b4affb10130", func := "rota/rotalaw05.KernNames", spec := "kernNames", unfollowed := true, recurses := true, apart := false }
def KernNamesSaid : Prop := kernNamesRow.holds Try.pinned (OpenSpec.ofChange kernNamesSpec)

/-- ITS FALSE NEIGHBOUR: 'it returns false'. Refute it at one input. -/
def kernNamesWrong : ChangeSpec := { name := "kernNames", fn := fun _ => fun
  | [] => { results := [.lit (.bool false)], args := [] }
  | _ => none }
def KernNamesWrongFalsely : Prop := kernNamesRow.holds Try.pinned (OpenSpec.ofChange kernNamesWrong)

/- THE SECOND FORM. 'bulk': how many values and letters a reading holds, each counted each time it is reached (what is shared counts as often as it is met; a slice's spare places count too). A statement '..UptoSaid' is the law's where the arguments, and the package variables that the reading takes, are together of bulk at most 1048576: NARROWER than '..Said'. Prove '..Said' where nothing that the law and all that it calls make is longer than what came in: it says more and counts as full. Else prove '..UptoSaid'. A law counts once. -/
mutual
def uptoBulk {H : Type} : DataW H → Nat
  | .lit (.string bytes) => bytes.length + 1
  | .lit _ => 1
  | .nil => 1
  | .ptr d => uptoBulk d + 1
  | .slice elems spare => uptoBulkAll elems + uptoBulkAll spare + 1
  | .agg parts => uptoBulkAll parts + 1
  | .iface _ d => uptoBulk d + 1
  | .map entries => uptoBulkEntries entries + 1
  | .held _ => 1
def uptoBulkAll {H : Type} : List (DataW H) → Nat
  | [] => 0
  | d :: r => uptoBulk d + uptoBulkAll r
def uptoBulkEntries {H : Type} : List (Lit × DataW H) → Nat
  | [] => 0
  | x :: r => uptoBulkEntry x + uptoBulkEntries r
def uptoBulkEntry {H : Type} : Lit × DataW H → Nat
  | (.string bytes, d) => bytes.length + uptoBulk d + 1
  | (_, d) => uptoBulk d + 1
 end
def uptoSmall : (H : Type) → List (DataW H) → Bool := fun _ ds => decide (uptoBulkAll ds ≤ 1048576)
def OpenSpec.upto (s : _root_.Go.ChangeSpec) : _root_.Go.OpenSpec := { _root_.Go.OpenSpec.ofChange s with cond := some uptoSmall }

/-- 'rotalaw05.KernRegion', WHERE WHAT IT READS IS OF BULK AT MOST 1048576: true; the input reads as it did. -/
def kernRegionUptoRow : OpenClaim := { program := "ytikbahcddohijaa", sum := "67c703537cccb7431ef73cc2a807c4062c2da0466d4e7445035f7b4affb10130", func := "rota/rotalaw05.KernRegion", spec := "kernRegion", unfollowed := true, recurses := true, apart := false, narrowed := true }
def KernRegionUptoSaid : Prop := kernRegionUptoRow.holds Try.pinned (OpenSpec.upto kernRegionSpec)

/-- 'rotalaw05.KernStops', WHERE WHAT IT READS IS OF BULK AT MOST 1048576: true; the input reads as it did. -/
def kernStopsUptoRow : OpenClaim := { program := "ytikbahcddohijaa", sum := "67c703537cccb7431ef73cc2a807c4062c2da0466d4e7445035f7b4affb10130", func := "rota/rotalaw05.KernStops", spec := "kernStops", unfollowed := true, recurses := true, apart := false, narrowed := true }
def KernStopsUptoSaid : Prop := kernStopsUptoRow.holds Try.pinned (OpenSpec.upto kernStopsSpec)

/-- 'rotalaw05.KernPlays', WHERE WHAT IT READS IS OF BULK AT MOST 1048576: true; the input reads as it did. -/
def kernPlaysUptoRow : OpenClaim := { program := "ytikbahcddohijaa", sum := "67c703537cccb7431ef73cc2a807c4062c2da0466d4e7445035f7b4affb10130", func := "rota/rotalaw05.KernPlays", spec := "kernPlays", unfollowed := true, recurses := true, apart := false, narrowed := true }
def KernPlaysUptoSaid : Prop := kernPlaysUptoRow.holds Try.pinned (OpenSpec.upto kernPlaysSpec)

/-- 'rotalaw05.KernNames', WHERE WHAT IT READS IS OF BULK AT MOST 1048576: true; the input reads as it did. -/
def kernNamesUptoRow : OpenClaim := { program := "ytikbahcddohijaa", sum := "67c703537cccb7431ef73cc2a807c4062c2da0466d4e7445035f7b4affb10130", func := "rota/rotalaw05.KernNames", spec := "kernNames", unfollowed := true, recurses := true, apart := false, narrowed := true }
def KernNamesUptoSaid : Prop := kernNamesUptoRow.holds Try.pinned (OpenSpec.upto kernNamesSpec)

end Rows
end Go.Proofs.Ytikbahcddohijaa
