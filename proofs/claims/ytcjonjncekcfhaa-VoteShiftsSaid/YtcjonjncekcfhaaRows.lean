/-
  No cell of these rows narrows 'for every input' (looked for: loops, veiled, ifaces, maps, wideKeys, modest, calm, conditions, laid).
  DERIVED. THE GIVEN ROWS OF THIS SEAT. 7 by the template 'for every input the law returns true; each argument reads behind the call as it read before'; 0 by the template 'total and deterministic' (their statements: YtcjonjncekcfhaaTotals.lean).
  GIVEN WITH THE SEED: the statements are not yours to turn. If you find one false, say at which input.
  Laid BY PROGRAM, IN A SANDBOX (cutbox-rows.mjs): the forced cells as the released guide's own fill.sh prints them over the translation 8a83c0bacdcf9a8d… (all of the seat's roots in one cut). By AI agents, Wed Nov 11 2026. No macro, syntax, notation, axiom, sorry.
-/
import Derived.Test.YtcjonjncekcfhaaChecked
import GoSem.Claim
import GoSem.ClaimJoined
import GoSem.ClaimMapViews
import Derived.JoinedTies
import Derived.KernelRfl
namespace Go.Proofs.Ytcjonjncekcfhaa
/- THE CELL 'sum', in the pinned program and in every row, IS THE sha256 OF THE DUMP (.gsa) THAT YtcjonjncekcfhaaProg.lean LOADS. Nothing in Lean hashes anything: it is a label: what it is worth is what the hold of that sum in a sandbox is worth. -/
noncomputable def Try.pinned : Pinned := { name := "ytcjonjncekcfhaa", sum := "8a83c0bacdcf9a8ddc705752b9a1691fb0e9960524883055690e40938ae0c1d6", checked := Try.checked }
namespace Rows
def none {H : Type} : Left H := { results := [], args := [] }

/-- 'rotalaw22.VoteMiddles': WHATEVER THE INPUT: true; the input reads as it did. -/
def voteMiddlesSpec : ChangeSpec := { name := "voteMiddles", fn := fun _ => fun
  | [d1, d2] => { results := [.lit (.bool true)], args := [d1, d2] }
  | _ => none }
def voteMiddlesRow : OpenClaim := { program := "ytcjonjncekcfhaa", sum := "8a83c0bacdcf9a8ddc705752b9a1691fb0e9960524883055690e40938ae0c1d6", func := "rota/rotalaw22.VoteMiddles", spec := "voteMiddles", unfollowed := true, recurses := true, apart := false }
def VoteMiddlesSaid : Prop := voteMiddlesRow.holds Try.pinned (OpenSpec.ofChange voteMiddlesSpec)

/-- ITS FALSE NEIGHBOUR: 'it returns false'. Refute it at one input. -/
def voteMiddlesWrong : ChangeSpec := { name := "voteMiddles", fn := fun _ => fun
  | [d1, d2] => { results := [.lit (.bool false)], args := [d1, d2] }
  | _ => none }
def VoteMiddlesWrongFalsely : Prop := voteMiddlesRow.holds Try.pinned (OpenSpec.ofChange voteMiddlesWrong)

/-- 'rotalaw22.VoteCounts': WHATEVER THE INPUT: true; the input reads as it did. -/
def voteCountsSpec : ChangeSpec := { name := "voteCounts", fn := fun _ => fun
  | [d] => { results := [.lit (.bool true)], args := [d] }
  | _ => none }
def voteCountsRow : OpenClaim := { program := "ytcjonjncekcfhaa", sum := "8a83c0bacdcf9a8ddc705752b9a1691fb0e9960524883055690e40938ae0c1d6", func := "rota/rotalaw22.VoteCounts", spec := "voteCounts", unfollowed := true, recurses := true, apart := false }
def VoteCountsSaid : Prop := voteCountsRow.holds Try.pinned (OpenSpec.ofChange voteCountsSpec)

/-- ITS FALSE NEIGHBOUR: 'it returns false'. Refute it at one input. -/
def voteCountsWrong : ChangeSpec := { name := "voteCounts", fn := fun _ => fun
  | [d] => { results := [.lit (.bool false)], args := [d] }
  | _ => none }
def VoteCountsWrongFalsely : Prop := voteCountsRow.holds Try.pinned (OpenSpec.ofChange voteCountsWrong)

/-- 'rotalaw22.VoteAgrees': WHATEVER THE INPUT: true; the input reads as it did. -/
def voteAgreesSpec : ChangeSpec := { name := "voteAgrees", fn := fun _ => fun
  | [d1, d2] => { results := [.lit (.bool true)], args := [d1, d2] }
  | _ => none }
def voteAgreesRow : OpenClaim := { program := "ytcjonjncekcfhaa", sum := "8a83c0bacdcf9a8ddc705752b9a1691fb0e9960524883055690e40938ae0c1d6", func := "rota/rotalaw22.VoteAgrees", spec := "voteAgrees", unfollowed := true, recurses := true, apart := false }
def VoteAgreesSaid : Prop := voteAgreesRow.holds Try.pinned (OpenSpec.ofChange voteAgreesSpec)

/-- ITS FALSE NEIGHBOUR: 'it returns false'. Refute it at one input. -/
def voteAgreesWrong : ChangeSpec := { name := "voteAgrees", fn := fun _ => fun
  | [d1, d2] => { results := [.lit (.bool false)], args := [d1, d2] }
  | _ => none }
def VoteAgreesWrongFalsely : Prop := voteAgreesRow.holds Try.pinned (OpenSpec.ofChange voteAgreesWrong)

/-- 'rotalaw22.VoteRight': WHATEVER THE INPUT: true; the input reads as it did. -/
def voteRightSpec : ChangeSpec := { name := "voteRight", fn := fun _ => fun
  | [d1, d2, d3] => { results := [.lit (.bool true)], args := [d1, d2, d3] }
  | _ => none }
def voteRightRow : OpenClaim := { program := "ytcjonjncekcfhaa", sum := "8a83c0bacdcf9a8ddc705752b9a1691fb0e9960524883055690e40938ae0c1d6", func := "rota/rotalaw22.VoteRight", spec := "voteRight", unfollowed := true, recurses := true, apart := false }
def VoteRightSaid : Prop := voteRightRow.holds Try.pinned (OpenSpec.ofChange voteRightSpec)

/-- ITS FALSE NEIGHBOUR: 'it returns false'. Refute it at one input. -/
def voteRightWrong : ChangeSpec := { name := "voteRight", fn := fun _ => fun
  | [d1, d2, d3] => { results := [.lit (.bool false)], args := [d1, d2, d3] }
  | _ => none }
def VoteRightWrongFalsely : Prop := voteRightRow.holds Try.pinned (OpenSpec.ofChange voteRightWrong)

/-- 'rotalaw22.VoteSame': WHATEVER THE INPUT: true; the input reads as it did. -/
def voteSameSpec : ChangeSpec := { name := "voteSame", fn := fun _ => fun
  | [d1, d2, d3] => { results := [.lit (.bool true)], args := [d1, d2, d3] }
  | _ => none }
def voteSameRow : OpenClaim := { program := "ytcjonjncekcfhaa", sum := "8a83c0bacdcf9a8ddc705752b9a1691fb0e9960524883055690e40938ae0c1d6", func := "rota/rotalaw22.VoteSame", spec := "voteSame", unfollowed := true, recurses := true, apart := false }
def VoteSameSaid : Prop := voteSameRow.holds Try.pinned (OpenSpec.ofChange voteSameSpec)

/-- ITS FALSE NEIGHBOUR: 'it returns false'. Refute it at one input. -/
def voteSameWrong : ChangeSpec := { name := "voteSame", fn := fun _ => fun
  | [d1, d2, d3] => { results := [.lit (.bool false)], args := [d1, d2, d3] }
  | _ => none }
def VoteSameWrongFalsely : Prop := voteSameRow.holds Try.pinned (OpenSpec.ofChange voteSameWrong)

/-- 'rotalaw22.VoteNames': WHATEVER THE INPUT: true; the input reads as it did. -/
def voteNamesSpec : ChangeSpec := { name := "voteNames", fn := fun _ => fun
  | [] => { results := [.lit (.bool true)], args := [] }
  | _ => none }
def voteNamesRow : OpenClaim := { program := "ytcjonjncekcfhaa", sum := "8a83c0bacdcf9a8ddc705752b9a1691fb0e9960524883055690e40938ae0c1d6", func := "rota/rotalaw22.VoteNames", spec := "voteNames", unfollowed := true, recurses := true, apart := false }
def VoteNamesSaid : Prop := voteNamesRow.holds Try.pinned (OpenSpec.ofChange voteNamesSpec)

/-- ITS FALSE NEIGHBOUR: 'it returns false'. Refute it at one input. -/
def voteNamesWrong : ChangeSpec := { name := "voteNames", fn := fun _ => fun
  | [] => { results := [.lit (.bool false)], args := [] }
  | _ => none }
def VoteNamesWrongFalsely : Prop := voteNamesRow.holds Try.pinned (OpenSpec.ofChange voteNamesWrong)

/-- 'rotalaw22.VoteShifts': WHATEVER THE INPUT: true; the input reads as it did. -/
def voteShiftsSpec : ChangeSpec := { name := "voteShifts", fn := fun _ => fun
  | [d1, d2, d3, d4] => { results := [.lit (.bool true)], args := [d1, d2, d3, d4] }
  | _ => none }
def voteShiftsRow : OpenClaim := { program := "ytcjonjncekcfhaa", sum := "8a83c0bacdcf9a8ddc705752b9a1691fb0e9960524883055690e40938ae0c1d6", func := "rota/rotalaw22.VoteShifts", spec := "voteShifts", unfollowed := true, recurses := true, apart := false }
def VoteShiftsSaid : Prop := voteShiftsRow.holds Try.pinned (OpenSpec.ofChange voteShiftsSpec)

/-- ITS FALSE NEIGHBOUR: 'it returns false'. Refute it at one input. -/
def voteShiftsWrong : ChangeSpec := { name := "voteShifts", fn := fun _ => fun
  | [d1, d2, d3, d4] => { results := [.lit (.bool false)], args := [d1, d2, d3, d4] }
  | _ => none }
def VoteShiftsWrongFalsely : Prop := voteShiftsRow.holds Try.pinned (OpenSpec.ofChange voteShiftsWrong)

/- THE SECOND FORM. 'bulk': how many values and letters a reading holds, each counted each time it is reached (what is shared counts as often as it is met; a slice's spare places count too). A statement '..UptoSaid' is the law's where the arguments, and the package variables that the reading takes, are together of bulk at most 1048576: NARROWER than '..Said'. Prove '..Said' where nothing that the law and all that it calls make is longer than what came in: it says more and counts as full. Else prove '..UptoSaid'. A law counts once. -/
mutual
def uptoBulk {H : Type} : DataW H → Nat
  | .lit (.string bytes) => bytes.length + 1
  | .lit _ => 1
  | .nil => 1
  | .ptr d => uptoBulk d + 1
  | .slice elems spare => uptoBulkAll elems + uptoBulkAll spare + 1
  | .agg parts => uptoBulkAll parts + 1
  | .iface _ d => uptoBulk d + 1
  | .map entries => uptoBulkEntries entries + 1
  | .held _ => 1
def uptoBulkAll {H : Type} : List (DataW H) → Nat
  | [] => 0
  | d :: r => uptoBulk d + uptoBulkAll r
def uptoBulkEntries {H : Type} : List (Lit × DataW H) → Nat
  | [] => 0
  | x :: r => uptoBulkEntry x + uptoBulkEntries r
def uptoBulkEntry {H : Type} : Lit × DataW H → Nat
  | (.string bytes, d) => bytes.length + uptoBulk d + 1
  | (_, d) => uptoBulk d + 1
 end
def uptoSmall : (H : Type) → List (DataW H) → Bool := fun _ ds => decide (uptoBulkAll ds ≤ 1048576)
def OpenSpec.upto (s : _root_.Go.ChangeSpec) : _root_.Go.OpenSpec := { _root_.Go.OpenSpec.ofChange s with cond := some uptoSmall }

/-- 'rotalaw22.VoteMiddles', WHERE WHAT IT READS IS OF BULK AT MOST 1048576: true; the input reads as it did. -/
def voteMiddlesUptoRow : OpenClaim := { program := "ytcjonjncekcfhaa", sum := "8a83c0bacdcf9a8ddc705752b9a1691fb0e9960524883055690e40938ae0c1d6", func := "rota/rotalaw22.VoteMiddles", spec := "voteMiddles", unfollowed := true, recurses := true, apart := false, narrowed := true }
def VoteMiddlesUptoSaid : Prop := voteMiddlesUptoRow.holds Try.pinned (OpenSpec.upto voteMiddlesSpec)

/-- 'rotalaw22.VoteCounts', WHERE WHAT IT READS IS OF BULK AT MOST 1048576: true; the input reads as it did. -/
def voteCountsUptoRow : OpenClaim := { program := "ytcjonjncekcfhaa", sum := "8a83c0bacdcf9a8ddc705752b9a1691fb0e9960524883055690e40938ae0c1d6", func := "rota/rotalaw22.VoteCounts", spec := "voteCounts", unfollowed := true, recurses := true, apart := false, narrowed := true }
def VoteCountsUptoSaid : Prop := voteCountsUptoRow.holds Try.pinned (OpenSpec.upto voteCountsSpec)

/-- 'rotalaw22.VoteAgrees', WHERE WHAT IT READS IS OF BULK AT MOST 1048576: true; the input reads as it did. -/
def voteAgreesUptoRow : OpenClaim := { program := "ytcjonjncekcfhaa", sum := "8a83c0bacdcf9a8ddc705752b9a1691fb0e9960524883055690e40938ae0c1d6", func := "rota/rotalaw22.VoteAgrees", spec := "voteAgrees", unfollowed := true, recurses := true, apart := false, narrowed := true }
def VoteAgreesUptoSaid : Prop := voteAgreesUptoRow.holds Try.pinned (OpenSpec.upto voteAgreesSpec)

/-- 'rotalaw22.VoteRight', WHERE WHAT IT READS IS OF BULK AT MOST 1048576: true; the input reads as it did. -/
def voteRightUptoRow : OpenClaim := { program := "ytcjonjncekcfhaa", sum := "8a83c0bacdcf9a8ddc705752b9a1691fb0e9960524883055690e40938ae0c1d6", func := "rota/rotalaw22.VoteRight", spec := "voteRight", unfollowed := true, recurses := true, apart := false, narrowed := true }
def VoteRightUptoSaid : Prop := voteRightUptoRow.holds Try.pinned (OpenSpec.upto voteRightSpec)

/-- 'rotalaw22.VoteSame', WHERE WHAT IT READS IS OF BULK AT MOST 1048576: true; the input reads as it did. -/
def voteSameUptoRow : OpenClaim := { program := "ytcjonjncekcfhaa", sum := "8a83c0bacdcf9a8ddc705752b9a1691fb0e9960524883055690e40938ae0c1d6", func := "rota/rotalaw22.VoteSame", spec := "voteSame", unfollowed := true, recurses := true, apart := false, narrowed := true }
def VoteSameUptoSaid : Prop := voteSameUptoRow.holds Try.pinned (OpenSpec.upto voteSameSpec)

/-- 'rotalaw22.VoteNames', WHERE WHAT IT READS IS OF BULK AT MOST 1048576: true; the input reads as it did. -/
def voteNamesUptoRow : OpenClaim := { program := "ytcjonjncekcfhaa", sum := "8a83c0bacdcf9a8ddc705752b9a1691fb0e9960524883055690e40938ae0c1d6", func := "rota/rotalaw22.VoteNames", spec := "voteNames", unfollowed := true, recurses := true, apart := false, narrowed := true }
def VoteNamesUptoSaid : Prop := voteNamesUptoRow.holds Try.pinned (OpenSpec.upto voteNamesSpec)

/-- 'rotalaw22.VoteShifts', WHERE WHAT IT READS IS OF BULK AT MOST 1048576: true; the input reads as it did. -/
def voteShiftsUptoRow : OpenClaim := { program := "ytcjonjncekcfhaa", sum := "8a83c0bacdcf9a8ddc705752b9a1691fb0e9960524883055690e40938ae0c1d6", func := "rota/rotalaw22.VoteShifts", spec := "voteShifts", unfollowed := true, recurses := true, apart := false, narrowed := true }
def VoteShiftsUptoSaid : Prop := voteShiftsUptoRow.holds Try.pinned (OpenSpec.upto voteShiftsSpec)

end Rows
end Go.Proofs.Ytcjonjncekcfhaa
