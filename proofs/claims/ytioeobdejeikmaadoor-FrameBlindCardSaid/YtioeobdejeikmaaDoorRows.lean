/-
  NARROWER THAN 'FOR EVERY INPUT', by the rows' own cells (each row's printed sentence says how): FrameWrites: laid · FrameApart: laid · FrameHears: laid · FrameBack: laid · FrameOwn: laid · FrameNames: laid · FrameBursts: laid · FrameBlind: laid.
  DERIVED. THE GIVEN ROWS OF THIS SEAT. 8 by the template 'for every input the law returns true; each argument reads behind the call as it read before'; 0 by the template 'total and deterministic' (their statements: YtioeobdejeikmaaDoorTotals.lean).
  GIVEN WITH THE SEED: the statements are not yours to turn. If you find one false, say at which input.
  Laid BY PROGRAM, IN A SANDBOX (cutbox-rows.mjs): the forced cells as the released guide's own fill.sh prints them over the translation 7a83bfb8abbabcc3… (all of the seat's roots in one cut). By AI agents, Wed Nov 11 2026. No macro, syntax, notation, axiom, sorry.
-/
import Derived.Test.YtioeobdejeikmaaDoorChecked
import GoSem.Claim
import GoSem.ClaimJoined
import GoSem.ClaimMapViews
import Derived.JoinedTies
import Derived.KernelRfl
namespace Go.Proofs.YtioeobdejeikmaaDoor
/- THE CELL 'sum', in the pinned program and in every row, IS THE sha256 OF THE DUMP (.gsa) THAT YtioeobdejeikmaaDoorProg.lean LOADS. Nothing in Lean hashes anything: it is a label: what it is worth is what the hold of that sum in a sandbox is worth. -/
noncomputable def Tryd.pinned : Pinned := { name := "ytioeobdejeikmaadoor", sum := "7a83bfb8abbabcc32205f59b4bd89a1870e7de6668cdbdc8a19fee930edc0b68", checked := Tryd.checked }
namespace Rows
def none {H : Type} : Left H := { results := [], args := [] }

/- WHAT THE LISTED PACKAGE-LEVEL VARIABLES READ AS WHEN THE CALL BEGINS. Each datum BY PROGRAM (the guide's laid-datum.mjs) off the statement by which the dump's own 'gosem.cut.vars' lays the variable. In a bare row this is a premise. The card (YtioeobdejeikmaaDoorCards.lean) ties it to the program's text. -/
def laid_rota_sum_nibbles {H : Type} : DataW H := .agg [.lit (.int .u32 0), .lit (.int .u32 498536548), .lit (.int .u32 997073096), .lit (.int .u32 651767980), .lit (.int .u32 1994146192), .lit (.int .u32 1802195444), .lit (.int .u32 1303535960), .lit (.int .u32 1342533948), .lit (.int .u32 3988292384), .lit (.int .u32 4027552580), .lit (.int .u32 3604390888), .lit (.int .u32 3412177804), .lit (.int .u32 2607071920), .lit (.int .u32 2262029012), .lit (.int .u32 2685067896), .lit (.int .u32 3183342108)]

/-- 'rotalaw03.FrameWrites': WHATEVER THE INPUT: true; the input reads as it did. -/
def frameWritesSpec : ChangeSpec := { name := "frameWrites", fn := fun _ => fun
  | [d] => { results := [.lit (.bool true)], args := [d] }
  | _ => none }
def frameWritesRow : OpenClaim := { program := "ytioeobdejeikmaadoor", sum := "7a83bfb8abbabcc32205f59b4bd89a1870e7de6668cdbdc8a19fee930edc0b68", func := "rota/rotalaw03.FrameWrites", spec := "frameWrites", named := ["rota/sum.nibbles"], apart := false, laid := [("rota/sum.nibbles", laid_rota_sum_nibbles)] }
def FrameWritesSaid : Prop := frameWritesRow.holds Tryd.pinned (OpenSpec.ofChange frameWritesSpec)

/-- ITS FALSE NEIGHBOUR: 'it returns false'. Refute it at one input. -/
def frameWritesWrong : ChangeSpec := { name := "frameWrites", fn := fun _ => fun
  | [d] => { results := [.lit (.bool false)], args := [d] }
  | _ => none }
def FrameWritesWrongFalsely : Prop := frameWritesRow.holds Tryd.pinned (OpenSpec.ofChange frameWritesWrong)

/-- 'rotalaw03.FrameApart': WHATEVER THE INPUT: true; the input reads as it did. -/
def frameApartSpec : ChangeSpec := { name := "frameApart", fn := fun _ => fun
  | [d1, d2] => { results := [.lit (.bool true)], args := [d1, d2] }
  | _ => none }
def frameApartRow : OpenClaim := { program := "ytioeobdejeikmaadoor", sum := "7a83bfb8abbabcc32205f59b4bd89a1870e7de6668cdbdc8a19fee930edc0b68", func := "rota/rotalaw03.FrameApart", spec := "frameApart", named := ["rota/sum.nibbles"], apart := false, laid := [("rota/sum.nibbles", laid_rota_sum_nibbles)] }
def FrameApartSaid : Prop := frameApartRow.holds Tryd.pinned (OpenSpec.ofChange frameApartSpec)

/-- ITS FALSE NEIGHBOUR: 'it returns false'. Refute it at one input. -/
def frameApartWrong : ChangeSpec := { name := "frameApart", fn := fun _ => fun
  | [d1, d2] => { results := [.lit (.bool false)], args := [d1, d2] }
  | _ => none }
def FrameApartWrongFalsely : Prop := frameApartRow.holds Tryd.pinned (OpenSpec.ofChange frameApartWrong)

/-- 'rotalaw03.FrameHears': WHATEVER THE INPUT: true; the input reads as it did. -/
def frameHearsSpec : ChangeSpec := { name := "frameHears", fn := fun _ => fun
  | [d1, d2, d3] => { results := [.lit (.bool true)], args := [d1, d2, d3] }
  | _ => none }
def frameHearsRow : OpenClaim := { program := "ytioeobdejeikmaadoor", sum := "7a83bfb8abbabcc32205f59b4bd89a1870e7de6668cdbdc8a19fee930edc0b68", func := "rota/rotalaw03.FrameHears", spec := "frameHears", named := ["rota/sum.nibbles"], apart := false, laid := [("rota/sum.nibbles", laid_rota_sum_nibbles)] }
def FrameHearsSaid : Prop := frameHearsRow.holds Tryd.pinned (OpenSpec.ofChange frameHearsSpec)

/-- ITS FALSE NEIGHBOUR: 'it returns false'. Refute it at one input. -/
def frameHearsWrong : ChangeSpec := { name := "frameHears", fn := fun _ => fun
  | [d1, d2, d3] => { results := [.lit (.bool false)], args := [d1, d2, d3] }
  | _ => none }
def FrameHearsWrongFalsely : Prop := frameHearsRow.holds Tryd.pinned (OpenSpec.ofChange frameHearsWrong)

/-- 'rotalaw03.FrameBack': WHATEVER THE INPUT: true; the input reads as it did. -/
def frameBackSpec : ChangeSpec := { name := "frameBack", fn := fun _ => fun
  | [d1, d2, d3] => { results := [.lit (.bool true)], args := [d1, d2, d3] }
  | _ => none }
def frameBackRow : OpenClaim := { program := "ytioeobdejeikmaadoor", sum := "7a83bfb8abbabcc32205f59b4bd89a1870e7de6668cdbdc8a19fee930edc0b68", func := "rota/rotalaw03.FrameBack", spec := "frameBack", named := ["rota/sum.nibbles"], apart := false, laid := [("rota/sum.nibbles", laid_rota_sum_nibbles)] }
def FrameBackSaid : Prop := frameBackRow.holds Tryd.pinned (OpenSpec.ofChange frameBackSpec)

/-- ITS FALSE NEIGHBOUR: 'it returns false'. Refute it at one input. -/
def frameBackWrong : ChangeSpec := { name := "frameBack", fn := fun _ => fun
  | [d1, d2, d3] => { results := [.lit (.bool false)], args := [d1, d2, d3] }
  | _ => none }
def FrameBackWrongFalsely : Prop := frameBackRow.holds Tryd.pinned (OpenSpec.ofChange frameBackWrong)

/-- 'rotalaw03.FrameOwn': WHATEVER THE INPUT: true; the input reads as it did. -/
def frameOwnSpec : ChangeSpec := { name := "frameOwn", fn := fun _ => fun
  | [d1, d2, d3] => { results := [.lit (.bool true)], args := [d1, d2, d3] }
  | _ => none }
def frameOwnRow : OpenClaim := { program := "ytioeobdejeikmaadoor", sum := "7a83bfb8abbabcc32205f59b4bd89a1870e7de6668cdbdc8a19fee930edc0b68", func := "rota/rotalaw03.FrameOwn", spec := "frameOwn", named := ["rota/sum.nibbles"], apart := false, laid := [("rota/sum.nibbles", laid_rota_sum_nibbles)] }
def FrameOwnSaid : Prop := frameOwnRow.holds Tryd.pinned (OpenSpec.ofChange frameOwnSpec)

/-- ITS FALSE NEIGHBOUR: 'it returns false'. Refute it at one input. -/
def frameOwnWrong : ChangeSpec := { name := "frameOwn", fn := fun _ => fun
  | [d1, d2, d3] => { results := [.lit (.bool false)], args := [d1, d2, d3] }
  | _ => none }
def FrameOwnWrongFalsely : Prop := frameOwnRow.holds Tryd.pinned (OpenSpec.ofChange frameOwnWrong)

/-- 'rotalaw03.FrameNames': WHATEVER THE INPUT: true; the input reads as it did. -/
def frameNamesSpec : ChangeSpec := { name := "frameNames", fn := fun _ => fun
  | [] => { results := [.lit (.bool true)], args := [] }
  | _ => none }
def frameNamesRow : OpenClaim := { program := "ytioeobdejeikmaadoor", sum := "7a83bfb8abbabcc32205f59b4bd89a1870e7de6668cdbdc8a19fee930edc0b68", func := "rota/rotalaw03.FrameNames", spec := "frameNames", unfollowed := true, recurses := true, named := ["rota/sum.nibbles"], apart := false, laid := [("rota/sum.nibbles", laid_rota_sum_nibbles)] }
def FrameNamesSaid : Prop := frameNamesRow.holds Tryd.pinned (OpenSpec.ofChange frameNamesSpec)

/-- ITS FALSE NEIGHBOUR: 'it returns false'. Refute it at one input. -/
def frameNamesWrong : ChangeSpec := { name := "frameNames", fn := fun _ => fun
  | [] => { results := [.lit (.bool false)], args := [] }
  | _ => none }
def FrameNamesWrongFalsely : Prop := frameNamesRow.holds Tryd.pinned (OpenSpec.ofChange frameNamesWrong)

/-- 'rotalaw03.FrameBursts': WHATEVER THE INPUT: true; the input reads as it did. -/
def frameBurstsSpec : ChangeSpec := { name := "frameBursts", fn := fun _ => fun
  | [d1, d2, d3] => { results := [.lit (.bool true)], args := [d1, d2, d3] }
  | _ => none }
def frameBurstsRow : OpenClaim := { program := "ytioeobdejeikmaadoor", sum := "7a83bfb8abbabcc32205f59b4bd89a1870e7de6668cdbdc8a19fee930edc0b68", func := "rota/rotalaw03.FrameBursts", spec := "frameBursts", unfollowed := true, recurses := true, named := ["rota/sum.nibbles"], apart := false, laid := [("rota/sum.nibbles", laid_rota_sum_nibbles)] }
def FrameBurstsSaid : Prop := frameBurstsRow.holds Tryd.pinned (OpenSpec.ofChange frameBurstsSpec)

/-- ITS FALSE NEIGHBOUR: 'it returns false'. Refute it at one input. -/
def frameBurstsWrong : ChangeSpec := { name := "frameBursts", fn := fun _ => fun
  | [d1, d2, d3] => { results := [.lit (.bool false)], args := [d1, d2, d3] }
  | _ => none }
def FrameBurstsWrongFalsely : Prop := frameBurstsRow.holds Tryd.pinned (OpenSpec.ofChange frameBurstsWrong)

/-- 'rotalaw03.FrameBlind': WHATEVER THE INPUT: true; the input reads as it did. -/
def frameBlindSpec : ChangeSpec := { name := "frameBlind", fn := fun _ => fun
  | [d1, d2, d3] => { results := [.lit (.bool true)], args := [d1, d2, d3] }
  | _ => none }
def frameBlindRow : OpenClaim := { program := "ytioeobdejeikmaadoor", sum := "7a83bfb8abbabcc32205f59b4bd89a1870e7de6668cdbdc8a19fee930edc0b68", func := "rota/rotalaw03.FrameBlind", spec := "frameBlind", unfollowed := true, recurses := true, named := ["rota/sum.nibbles"], apart := false, laid := [("rota/sum.nibbles", laid_rota_sum_nibbles)] }
def FrameBlindSaid : Prop := frameBlindRow.holds Tryd.pinned (OpenSpec.ofChange frameBlindSpec)

/-- ITS FALSE NEIGHBOUR: 'it returns false'. Refute it at one input. -/
def frameBlindWrong : ChangeSpec := { name := "frameBlind", fn := fun _ => fun
  | [d1, d2, d3] => { results := [.lit (.bool false)], args := [d1, d2, d3] }
  | _ => none }
def FrameBlindWrongFalsely : Prop := frameBlindRow.holds Tryd.pinned (OpenSpec.ofChange frameBlindWrong)

/- THE SECOND FORM. 'bulk': how many values and letters a reading holds, each counted each time it is reached (what is shared counts as often as it is met; a slice's spare places count too). A statement '..UptoSaid' is the law's where the arguments, and the package variables that the reading takes, are together of bulk at most 1048576: NARROWER than '..Said'. Prove '..Said' where nothing that the law and all that it calls make is longer than what came in: it says more and counts as full. Else prove '..UptoSaid'. A law counts once. -/
mutual
def uptoBulk {H : Type} : DataW H → Nat
  | .lit (.string bytes) => bytes.length + 1
  | .lit _ => 1
  | .nil => 1
  | .ptr d => uptoBulk d + 1
  | .slice elems spare => uptoBulkAll elems + uptoBulkAll spare + 1
  | .agg parts => uptoBulkAll parts + 1
  | .iface _ d => uptoBulk d + 1
  | .map entries => uptoBulkEntries entries + 1
  | .held _ => 1
def uptoBulkAll {H : Type} : List (DataW H) → Nat
  | [] => 0
  | d :: r => uptoBulk d + uptoBulkAll r
def uptoBulkEntries {H : Type} : List (Lit × DataW H) → Nat
  | [] => 0
  | x :: r => uptoBulkEntry x + uptoBulkEntries r
def uptoBulkEntry {H : Type} : Lit × DataW H → Nat
  | (.string bytes, d) => bytes.length + uptoBulk d + 1
  | (_, d) => uptoBulk d + 1
 end
def uptoSmall : (H : Type) → List (DataW H) → Bool := fun _ ds => decide (uptoBulkAll ds ≤ 1048576)
def OpenSpec.upto (s : _root_.Go.ChangeSpec) : _root_.Go.OpenSpec := { _root_.Go.OpenSpec.ofChange s with cond := some uptoSmall }

/-- 'rotalaw03.FrameWrites', WHERE WHAT IT READS IS OF BULK AT MOST 1048576: true; the input reads as it did. -/
def frameWritesUptoRow : OpenClaim := { program := "ytioeobdejeikmaadoor", sum := "7a83bfb8abbabcc32205f59b4bd89a1870e7de6668cdbdc8a19fee930edc0b68", func := "rota/rotalaw03.FrameWrites", spec := "frameWrites", named := ["rota/sum.nibbles"], apart := false, laid := [("rota/sum.nibbles", laid_rota_sum_nibbles)], narrowed := true }
def FrameWritesUptoSaid : Prop := frameWritesUptoRow.holds Tryd.pinned (OpenSpec.upto frameWritesSpec)

/-- 'rotalaw03.FrameApart', WHERE WHAT IT READS IS OF BULK AT MOST 1048576: true; the input reads as it did. -/
def frameApartUptoRow : OpenClaim := { program := "ytioeobdejeikmaadoor", sum := "7a83bfb8abbabcc32205f59b4bd89a1870e7de6668cdbdc8a19fee930edc0b68", func := "rota/rotalaw03.FrameApart", spec := "frameApart", named := ["rota/sum.nibbles"], apart := false, laid := [("rota/sum.nibbles", laid_rota_sum_nibbles)], narrowed := true }
def FrameApartUptoSaid : Prop := frameApartUptoRow.holds Tryd.pinned (OpenSpec.upto frameApartSpec)

/-- 'rotalaw03.FrameHears', WHERE WHAT IT READS IS OF BULK AT MOST 1048576: true; the input reads as it did. -/
def frameHearsUptoRow : OpenClaim := { program := "ytioeobdejeikmaadoor", sum := "7a83bfb8abbabcc32205f59b4bd89a1870e7de6668cdbdc8a19fee930edc0b68", func := "rota/rotalaw03.FrameHears", spec := "frameHears", named := ["rota/sum.nibbles"], apart := false, laid := [("rota/sum.nibbles", laid_rota_sum_nibbles)], narrowed := true }
def FrameHearsUptoSaid : Prop := frameHearsUptoRow.holds Tryd.pinned (OpenSpec.upto frameHearsSpec)

/-- 'rotalaw03.FrameBack', WHERE WHAT IT READS IS OF BULK AT MOST 1048576: true; the input reads as it did. -/
def frameBackUptoRow : OpenClaim := { program := "ytioeobdejeikmaadoor", sum := "7a83bfb8abbabcc32205f59b4bd89a1870e7de6668cdbdc8a19fee930edc0b68", func := "rota/rotalaw03.FrameBack", spec := "frameBack", named := ["rota/sum.nibbles"], apart := false, laid := [("rota/sum.nibbles", laid_rota_sum_nibbles)], narrowed := true }
def FrameBackUptoSaid : Prop := frameBackUptoRow.holds Tryd.pinned (OpenSpec.upto frameBackSpec)

/-- 'rotalaw03.FrameOwn', WHERE WHAT IT READS IS OF BULK AT MOST 1048576: true; the input reads as it did. -/
def frameOwnUptoRow : OpenClaim := { program := "ytioeobdejeikmaadoor", sum := "7a83bfb8abbabcc32205f59b4bd89a1870e7de6668cdbdc8a19fee930edc0b68", func := "rota/rotalaw03.FrameOwn", spec := "frameOwn", named := ["rota/sum.nibbles"], apart := false, laid := [("rota/sum.nibbles", laid_rota_sum_nibbles)], narrowed := true }
def FrameOwnUptoSaid : Prop := frameOwnUptoRow.holds Tryd.pinned (OpenSpec.upto frameOwnSpec)

/-- 'rotalaw03.FrameNames', WHERE WHAT IT READS IS OF BULK AT MOST 1048576: true; the input reads as it did. -/
def frameNamesUptoRow : OpenClaim := { program := "ytioeobdejeikmaadoor", sum := "7a83bfb8abbabcc32205f59b4bd89a1870e7de6668cdbdc8a19fee930edc0b68", func := "rota/rotalaw03.FrameNames", spec := "frameNames", unfollowed := true, recurses := true, named := ["rota/sum.nibbles"], apart := false, laid := [("rota/sum.nibbles", laid_rota_sum_nibbles)], narrowed := true }
def FrameNamesUptoSaid : Prop := frameNamesUptoRow.holds Tryd.pinned (OpenSpec.upto frameNamesSpec)

/-- 'rotalaw03.FrameBursts', WHERE WHAT IT READS IS OF BULK AT MOST 1048576: true; the input reads as it did. -/
def frameBurstsUptoRow : OpenClaim := { program := "ytioeobdejeikmaadoor", sum := "7a83bfb8abbabcc32205f59b4bd89a1870e7de6668cdbdc8a19fee930edc0b68", func := "rota/rotalaw03.FrameBursts", spec := "frameBursts", unfollowed := true, recurses := true, named := ["rota/sum.nibbles"], apart := false, laid := [("rota/sum.nibbles", laid_rota_sum_nibbles)], narrowed := true }
def FrameBurstsUptoSaid : Prop := frameBurstsUptoRow.holds Tryd.pinned (OpenSpec.upto frameBurstsSpec)

/-- 'rotalaw03.FrameBlind', WHERE WHAT IT READS IS OF BULK AT MOST 1048576: true; the input reads as it did. -/
def frameBlindUptoRow : OpenClaim := { program := "ytioeobdejeikmaadoor", sum := "7a83bfb8abbabcc32205f59b4bd89a1870e7de6668cdbdc8a19fee930edc0b68", func := "rota/rotalaw03.FrameBlind", spec := "frameBlind", unfollowed := true, recurses := true, named := ["rota/sum.nibbles"], apart := false, laid := [("rota/sum.nibbles", laid_rota_sum_nibbles)], narrowed := true }
def FrameBlindUptoSaid : Prop := frameBlindUptoRow.holds Tryd.pinned (OpenSpec.upto frameBlindSpec)

end Rows
end Go.Proofs.YtioeobdejeikmaaDoor
