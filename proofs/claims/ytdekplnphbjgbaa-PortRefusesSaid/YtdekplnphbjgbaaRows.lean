/-
  No cell of these rows narrows 'for every input' (looked for: loops, veiled, ifaces, maps, wideKeys, modest, calm, conditions, laid).
  DERIVED. THE GIVEN ROWS OF THIS SEAT. 7 by the template 'for every input the law returns true; each argument reads behind the call as it read before'; 0 by the template 'total and deterministic' (their statements: YtdekplnphbjgbaaTotals.lean).
  GIVEN WITH THE SEED: the statements are not yours to turn. If you find one false, say at which input.
  Laid BY PROGRAM, IN A SANDBOX (cutbox-rows.mjs): the forced cells as the released guide's own fill.sh prints them over the translation 2ac4d89faaaaa5dd… (all of the seat's roots in one cut). By AI agents, Wed Nov 11 2026. No macro, syntax, notation, axiom, sorry.
-/
import Derived.Test.YtdekplnphbjgbaaChecked
import GoSem.Claim
import GoSem.ClaimJoined
import GoSem.ClaimMapViews
import Derived.JoinedTies
import Derived.KernelRfl
namespace Go.Proofs.Ytdekplnphbjgbaa
/- THE CELL 'sum', in the pinned program and in every row, IS THE sha256 OF THE DUMP (.gsa) THAT YtdekplnphbjgbaaProg.lean LOADS. Nothing in Lean hashes anything: it is a label: what it is worth is what the hold of that sum in a sandbox is worth. -/
noncomputable def Try.pinned : Pinned := { name := "ytdekplnphbjgbaa", sum := "2ac4d89faaaaa5dd2c4b9275528699644552ad90609704252fc016b23c29b139", checked := Try.checked }
namespace Rows
def none {H : Type} : Left H := { results := [], args := [] }

/-- 'rotalaw04.PortLast': WHATEVER THE INPUT: true; the input reads as it did. -/
def portLastSpec : ChangeSpec := { name := "portLast", fn := fun _ => fun
  | [d1, d2] => { results := [.lit (.bool true)], args := [d1, d2] }
  | _ => none }
def portLastRow : OpenClaim := { program := "ytdekplnphbjgbaa", sum := "2ac4d89faaaaa5dd2c4b9275528699644552ad90609704252fc016b23c29b139", func := "rota/rotalaw04.PortLast", spec := "portLast", unfollowed := true, recurses := true, apart := false }
def PortLastSaid : Prop := portLastRow.holds Try.pinned (OpenSpec.ofChange portLastSpec)

/-- ITS FALSE NEIGHBOUR: 'it returns false'. Refute it at one input. -/
def portLastWrong : ChangeSpec := { name := "portLast", fn := fun _ => fun
  | [d1, d2] => { results := [.lit (.bool false)], args := [d1, d2] }
  | _ => none }
def PortLastWrongFalsely : Prop := portLastRow.holds Try.pinned (OpenSpec.ofChange portLastWrong)

/-- 'rotalaw04.PortOrder': WHATEVER THE INPUT: true; the input reads as it did. -/
def portOrderSpec : ChangeSpec := { name := "portOrder", fn := fun _ => fun
  | [d1, d2, d3] => { results := [.lit (.bool true)], args := [d1, d2, d3] }
  | _ => none }
def portOrderRow : OpenClaim := { program := "ytdekplnphbjgbaa", sum := "2ac4d89faaaaa5dd2c4b9275528699644552ad90609704252fc016b23c29b139", func := "rota/rotalaw04.PortOrder", spec := "portOrder", unfollowed := true, recurses := true, apart := false }
def PortOrderSaid : Prop := portOrderRow.holds Try.pinned (OpenSpec.ofChange portOrderSpec)

/-- ITS FALSE NEIGHBOUR: 'it returns false'. Refute it at one input. -/
def portOrderWrong : ChangeSpec := { name := "portOrder", fn := fun _ => fun
  | [d1, d2, d3] => { results := [.lit (.bool false)], args := [d1, d2, d3] }
  | _ => none }
def PortOrderWrongFalsely : Prop := portOrderRow.holds Try.pinned (OpenSpec.ofChange portOrderWrong)

/-- 'rotalaw04.PortFresh': WHATEVER THE INPUT: true; the input reads as it did. -/
def portFreshSpec : ChangeSpec := { name := "portFresh", fn := fun _ => fun
  | [d1, d2, d3] => { results := [.lit (.bool true)], args := [d1, d2, d3] }
  | _ => none }
def portFreshRow : OpenClaim := { program := "ytdekplnphbjgbaa", sum := "2ac4d89faaaaa5dd2c4b9275528699644552ad90609704252fc016b23c29b139", func := "rota/rotalaw04.PortFresh", spec := "portFresh", unfollowed := true, recurses := true, apart := false }
def PortFreshSaid : Prop := portFreshRow.holds Try.pinned (OpenSpec.ofChange portFreshSpec)

/-- ITS FALSE NEIGHBOUR: 'it returns false'. Refute it at one input. -/
def portFreshWrong : ChangeSpec := { name := "portFresh", fn := fun _ => fun
  | [d1, d2, d3] => { results := [.lit (.bool false)], args := [d1, d2, d3] }
  | _ => none }
def PortFreshWrongFalsely : Prop := portFreshRow.holds Try.pinned (OpenSpec.ofChange portFreshWrong)

/-- 'rotalaw04.PortPlays': WHATEVER THE INPUT: true; the input reads as it did. -/
def portPlaysSpec : ChangeSpec := { name := "portPlays", fn := fun _ => fun
  | [d1, d2] => { results := [.lit (.bool true)], args := [d1, d2] }
  | _ => none }
def portPlaysRow : OpenClaim := { program := "ytdekplnphbjgbaa", sum := "2ac4d89faaaaa5dd2c4b9275528699644552ad90609704252fc016b23c29b139", func := "rota/rotalaw04.PortPlays", spec := "portPlays", unfollowed := true, recurses := true, apart := false }
def PortPlaysSaid : Prop := portPlaysRow.holds Try.pinned (OpenSpec.ofChange portPlaysSpec)

/-- ITS FALSE NEIGHBOUR: 'it returns false'. Refute it at one input. -/
def portPlaysWrong : ChangeSpec := { name := "portPlays", fn := fun _ => fun
  | [d1, d2] => { results := [.lit (.bool false)], args := [d1, d2] }
  | _ => none }
def PortPlaysWrongFalsely : Prop := portPlaysRow.holds Try.pinned (OpenSpec.ofChange portPlaysWrong)

/-- 'rotalaw04.PortNames': WHATEVER THE INPUT: true; the input reads as it did. -/
def portNamesSpec : ChangeSpec := { name := "portNames", fn := fun _ => fun
  | [] => { results := [.lit (.bool true)], args := [] }
  | _ => none }
def portNamesRow : OpenClaim := { program := "ytdekplnphbjgbaa", sum := "2ac4d89faaaaa5dd2c4b9275528699644552ad90609704252fc016b23c29b139", func := "rota/rotalaw04.PortNames", spec := "portNames", unfollowed := true, recurses := true, apart := false }
def PortNamesSaid : Prop := portNamesRow.holds Try.pinned (OpenSpec.ofChange portNamesSpec)

/-- ITS FALSE NEIGHBOUR: 'it returns false'. Refute it at one input. -/
def portNamesWrong : ChangeSpec := { name := "portNames", fn := fun _ => fun
  | [] => { results := [.lit (.bool false)], args := [] }
  | _ => none }
def PortNamesWrongFalsely : Prop := portNamesRow.holds Try.pinned (OpenSpec.ofChange portNamesWrong)

/-- 'rotalaw04.PortCopies': WHATEVER THE INPUT: true; the input reads as it did. -/
def portCopiesSpec : ChangeSpec := { name := "portCopies", fn := fun _ => fun
  | [d1, d2, d3] => { results := [.lit (.bool true)], args := [d1, d2, d3] }
  | _ => none }
def portCopiesRow : OpenClaim := { program := "ytdekplnphbjgbaa", sum := "2ac4d89faaaaa5dd2c4b9275528699644552ad90609704252fc016b23c29b139", func := "rota/rotalaw04.PortCopies", spec := "portCopies", unfollowed := true, recurses := true, apart := false }
def PortCopiesSaid : Prop := portCopiesRow.holds Try.pinned (OpenSpec.ofChange portCopiesSpec)

/-- ITS FALSE NEIGHBOUR: 'it returns false'. Refute it at one input. -/
def portCopiesWrong : ChangeSpec := { name := "portCopies", fn := fun _ => fun
  | [d1, d2, d3] => { results := [.lit (.bool false)], args := [d1, d2, d3] }
  | _ => none }
def PortCopiesWrongFalsely : Prop := portCopiesRow.holds Try.pinned (OpenSpec.ofChange portCopiesWrong)

/-- 'rotalaw04.PortRefuses': WHATEVER THE INPUT: true; the input reads as it did. -/
def portRefusesSpec : ChangeSpec := { name := "portRefuses", fn := fun _ => fun
  | [d1, d2, d3] => { results := [.lit (.bool true)], args := [d1, d2, d3] }
  | _ => none }
def portRefusesRow : OpenClaim := { program := "ytdekplnphbjgbaa", sum := "2ac4d89faaaaa5dd2c4b9275528699644552ad90609704252fc016b23c29b139", func := "rota/rotalaw04.PortRefuses", spec := "portRefuses", unfollowed := true, recurses := true, apart := false }
def PortRefusesSaid : Prop := portRefusesRow.holds Try.pinned (OpenSpec.ofChange portRefusesSpec)

/-- ITS FALSE NEIGHBOUR: 'it returns false'. Refute it at one input. -/
def portRefusesWrong : ChangeSpec := { name := "portRefuses", fn := fun _ => fun
  | [d1, d2, d3] => { results := [.lit (.bool false)], args := [d1, d2, d3] }
  | _ => none }
def PortRefusesWrongFalsely : Prop := portRefusesRow.holds Try.pinned (OpenSpec.ofChange portRefusesWrong)

/- THE SECOND FORM. 'bulk': how many values and letters a reading holds, each counted each time it is reached (what is shared counts as often as it is met; a slice's spare places count too). A statement '..UptoSaid' is the law's where the arguments, and the package variables that the reading takes, are together of bulk at most 1048576: NARROWER than '..Said'. Prove '..Said' where nothing that the law and all that it calls make is longer than what came in: it says more and counts as full. Else prove '..UptoSaid'. A law counts once. -/
mutual
def uptoBulk {H : Type} : DataW H → Nat
  | .lit (.string bytes) => bytes.length + 1
  | .lit _ => 1
  | .nil => 1
  | .ptr d => uptoBulk d + 1
  | .slice elems spare => uptoBulkAll elems + uptoBulkAll spare + 1
  | .agg parts => uptoBulkAll parts + 1
  | .iface _ d => uptoBulk d + 1
  | .map entries => uptoBulkEntries entries + 1
  | .held _ => 1
def uptoBulkAll {H : Type} : List (DataW H) → Nat
  | [] => 0
  | d :: r => uptoBulk d + uptoBulkAll r
def uptoBulkEntries {H : Type} : List (Lit × DataW H) → Nat
  | [] => 0
  | x :: r => uptoBulkEntry x + uptoBulkEntries r
def uptoBulkEntry {H : Type} : Lit × DataW H → Nat
  | (.string bytes, d) => bytes.length + uptoBulk d + 1
  | (_, d) => uptoBulk d + 1
 end
def uptoSmall : (H : Type) → List (DataW H) → Bool := fun _ ds => decide (uptoBulkAll ds ≤ 1048576)
def OpenSpec.upto (s : _root_.Go.ChangeSpec) : _root_.Go.OpenSpec := { _root_.Go.OpenSpec.ofChange s with cond := some uptoSmall }

/-- 'rotalaw04.PortLast', WHERE WHAT IT READS IS OF BULK AT MOST 1048576: true; the input reads as it did. -/
def portLastUptoRow : OpenClaim := { program := "ytdekplnphbjgbaa", sum := "2ac4d89faaaaa5dd2c4b9275528699644552ad90609704252fc016b23c29b139", func := "rota/rotalaw04.PortLast", spec := "portLast", unfollowed := true, recurses := true, apart := false, narrowed := true }
def PortLastUptoSaid : Prop := portLastUptoRow.holds Try.pinned (OpenSpec.upto portLastSpec)

/-- 'rotalaw04.PortOrder', WHERE WHAT IT READS IS OF BULK AT MOST 1048576: true; the input reads as it did. -/
def portOrderUptoRow : OpenClaim := { program := "ytdekplnphbjgbaa", sum := "2ac4d89faaaaa5dd2c4b9275528699644552ad90609704252fc016b23c29b139", func := "rota/rotalaw04.PortOrder", spec := "portOrder", unfollowed := true, recurses := true, apart := false, narrowed := true }
def PortOrderUptoSaid : Prop := portOrderUptoRow.holds Try.pinned (OpenSpec.upto portOrderSpec)

/-- 'rotalaw04.PortFresh', WHERE WHAT IT READS IS OF BULK AT MOST 1048576: true; the input reads as it did. -/
def portFreshUptoRow : OpenClaim := { program := "ytdekplnphbjgbaa", sum := "2ac4d89faaaaa5dd2c4b9275528699644552ad90609704252fc016b23c29b139", func := "rota/rotalaw04.PortFresh", spec := "portFresh", unfollowed := true, recurses := true, apart := false, narrowed := true }
def PortFreshUptoSaid : Prop := portFreshUptoRow.holds Try.pinned (OpenSpec.upto portFreshSpec)

/-- 'rotalaw04.PortPlays', WHERE WHAT IT READS IS OF BULK AT MOST 1048576: true; the input reads as it did. -/
def portPlaysUptoRow : OpenClaim := { program := "ytdekplnphbjgbaa", sum := "2ac4d89faaaaa5dd2c4b9275528699644552ad90609704252fc016b23c29b139", func := "rota/rotalaw04.PortPlays", spec := "portPlays", unfollowed := true, recurses := true, apart := false, narrowed := true }
def PortPlaysUptoSaid : Prop := portPlaysUptoRow.holds Try.pinned (OpenSpec.upto portPlaysSpec)

/-- 'rotalaw04.PortNames', WHERE WHAT IT READS IS OF BULK AT MOST 1048576: true; the input reads as it did. -/
def portNamesUptoRow : OpenClaim := { program := "ytdekplnphbjgbaa", sum := "2ac4d89faaaaa5dd2c4b9275528699644552ad90609704252fc016b23c29b139", func := "rota/rotalaw04.PortNames", spec := "portNames", unfollowed := true, recurses := true, apart := false, narrowed := true }
def PortNamesUptoSaid : Prop := portNamesUptoRow.holds Try.pinned (OpenSpec.upto portNamesSpec)

/-- 'rotalaw04.PortCopies', WHERE WHAT IT READS IS OF BULK AT MOST 1048576: true; the input reads as it did. -/
def portCopiesUptoRow : OpenClaim := { program := "ytdekplnphbjgbaa", sum := "2ac4d89faaaaa5dd2c4b9275528699644552ad90609704252fc016b23c29b139", func := "rota/rotalaw04.PortCopies", spec := "portCopies", unfollowed := true, recurses := true, apart := false, narrowed := true }
def PortCopiesUptoSaid : Prop := portCopiesUptoRow.holds Try.pinned (OpenSpec.upto portCopiesSpec)

/-- 'rotalaw04.PortRefuses', WHERE WHAT IT READS IS OF BULK AT MOST 1048576: true; the input reads as it did. -/
def portRefusesUptoRow : OpenClaim := { program := "ytdekplnphbjgbaa", sum := "2ac4d89faaaaa5dd2c4b9275528699644552ad90609704252fc016b23c29b139", func := "rota/rotalaw04.PortRefuses", spec := "portRefuses", unfollowed := true, recurses := true, apart := false, narrowed := true }
def PortRefusesUptoSaid : Prop := portRefusesUptoRow.holds Try.pinned (OpenSpec.upto portRefusesSpec)

end Rows
end Go.Proofs.Ytdekplnphbjgbaa
