/-
  NARROWER THAN 'FOR EVERY INPUT', by the rows' own cells (each row's printed sentence says how): DualChooses: laid · DualOne: laid · DualSums: laid · DualSteps: laid · DualNames: laid · DualTurned: laid.
  DERIVED. THE GIVEN ROWS OF THIS SEAT. 6 by the template 'for every input the law returns true; each argument reads behind the call as it read before'; 0 by the template 'total and deterministic' (their statements: YtjcgdcadflplcaaDoorTotals.lean).
  GIVEN WITH THE SEED: the statements are not yours to turn. If you find one false, say at which input.
  Laid BY PROGRAM, IN A SANDBOX (cutbox-rows.mjs): the forced cells as the released guide's own fill.sh prints them over the translation 4cc75331eaf33fbc… (all of the seat's roots in one cut). By AI agents, Wed Nov 11 2026. No macro, syntax, notation, axiom, sorry.
-/
import Derived.Test.YtjcgdcadflplcaaDoorChecked
import GoSem.Claim
import GoSem.ClaimJoined
import GoSem.ClaimMapViews
import Derived.JoinedTies
import Derived.KernelRfl
namespace Go.Proofs.YtjcgdcadflplcaaDoor
/- THE CELL 'sum', in the pinned program and in every row, IS THE sha256 OF THE DUMP (.gsa) THAT YtjcgdcadflplcaaDoorProg.lean LOADS. Nothing in Lean hashes anything: it is a label: what it is worth is what the hold of that sum in a sandbox is worth. -/
noncomputable def Tryd.pinned : Pinned := { name := "ytjcgdcadflplcaadoor", sum := "4cc75331eaf33fbcbb59fd97ac5be5dcefa56bd321cfb241478b63736299de4a", checked := Tryd.checked }
namespace Rows
def none {H : Type} : Left H := { results := [], args := [] }

/- WHAT THE LISTED PACKAGE-LEVEL VARIABLES READ AS WHEN THE CALL BEGINS. Each datum BY PROGRAM (the guide's laid-datum.mjs) off the statement by which the dump's own 'gosem.cut.vars' lays the variable. In a bare row this is a premise. The card (YtjcgdcadflplcaaDoorCards.lean) ties it to the program's text. -/
def laid_rota_sum_nibbles {H : Type} : DataW H := .agg [.lit (.int .u32 0), .lit (.int .u32 498536548), .lit (.int .u32 997073096), .lit (.int .u32 651767980), .lit (.int .u32 1994146192), .lit (.int .u32 1802195444), .lit (.int .u32 1303535960), .lit (.int .u32 1342533948), .lit (.int .u32 3988292384), .lit (.int .u32 4027552580), .lit (.int .u32 3604390888), .lit (.int .u32 3412177804), .lit (.int .u32 2607071920), .lit (.int .u32 2262029012), .lit (.int .u32 2685067896), .lit (.int .u32 3183342108)]

/-- 'rotalaw21.DualChooses': WHATEVER THE INPUT: true; the input reads as it did. -/
def dualChoosesSpec : ChangeSpec := { name := "dualChooses", fn := fun _ => fun
  | [d1, d2, d3] => { results := [.lit (.bool true)], args := [d1, d2, d3] }
  | _ => none }
def dualChoosesRow : OpenClaim := { program := "ytjcgdcadflplcaadoor", sum := "4cc75331eaf33fbcbb59fd97ac5be5dcefa56bd321cfb241478b63736299de4a", func := "rota/rotalaw21.DualChooses", spec := "dualChooses", unfollowed := true, recurses := true, named := ["rota/sum.nibbles"], apart := false, laid := [("rota/sum.nibbles", laid_rota_sum_nibbles)] }
def DualChoosesSaid : Prop := dualChoosesRow.holds Tryd.pinned (OpenSpec.ofChange dualChoosesSpec)

/-- ITS FALSE NEIGHBOUR: 'it returns false'. Refute it at one input. -/
def dualChoosesWrong : ChangeSpec := { name := "dualChooses", fn := fun _ => fun
  | [d1, d2, d3] => { results := [.lit (.bool false)], args := [d1, d2, d3] }
  | _ => none }
def DualChoosesWrongFalsely : Prop := dualChoosesRow.holds Tryd.pinned (OpenSpec.ofChange dualChoosesWrong)

/-- 'rotalaw21.DualOne': WHATEVER THE INPUT: true; the input reads as it did. -/
def dualOneSpec : ChangeSpec := { name := "dualOne", fn := fun _ => fun
  | [d1, d2, d3] => { results := [.lit (.bool true)], args := [d1, d2, d3] }
  | _ => none }
def dualOneRow : OpenClaim := { program := "ytjcgdcadflplcaadoor", sum := "4cc75331eaf33fbcbb59fd97ac5be5dcefa56bd321cfb241478b63736299de4a", func := "rota/rotalaw21.DualOne", spec := "dualOne", inPlace := ["sync/atomic.AddUint64"], unfollowed := true, recurses := true, named := ["rota/sum.nibbles"], apart := false, laid := [("rota/sum.nibbles", laid_rota_sum_nibbles)] }
def DualOneSaid : Prop := dualOneRow.holds Tryd.pinned (OpenSpec.ofChange dualOneSpec)

/-- ITS FALSE NEIGHBOUR: 'it returns false'. Refute it at one input. -/
def dualOneWrong : ChangeSpec := { name := "dualOne", fn := fun _ => fun
  | [d1, d2, d3] => { results := [.lit (.bool false)], args := [d1, d2, d3] }
  | _ => none }
def DualOneWrongFalsely : Prop := dualOneRow.holds Tryd.pinned (OpenSpec.ofChange dualOneWrong)

/-- 'rotalaw21.DualSums': WHATEVER THE INPUT: true; the input reads as it did. -/
def dualSumsSpec : ChangeSpec := { name := "dualSums", fn := fun _ => fun
  | [d1, d2] => { results := [.lit (.bool true)], args := [d1, d2] }
  | _ => none }
def dualSumsRow : OpenClaim := { program := "ytjcgdcadflplcaadoor", sum := "4cc75331eaf33fbcbb59fd97ac5be5dcefa56bd321cfb241478b63736299de4a", func := "rota/rotalaw21.DualSums", spec := "dualSums", inPlace := ["sync/atomic.AddUint64"], unfollowed := true, recurses := true, named := ["rota/sum.nibbles"], apart := false, laid := [("rota/sum.nibbles", laid_rota_sum_nibbles)] }
def DualSumsSaid : Prop := dualSumsRow.holds Tryd.pinned (OpenSpec.ofChange dualSumsSpec)

/-- ITS FALSE NEIGHBOUR: 'it returns false'. Refute it at one input. -/
def dualSumsWrong : ChangeSpec := { name := "dualSums", fn := fun _ => fun
  | [d1, d2] => { results := [.lit (.bool false)], args := [d1, d2] }
  | _ => none }
def DualSumsWrongFalsely : Prop := dualSumsRow.holds Tryd.pinned (OpenSpec.ofChange dualSumsWrong)

/-- 'rotalaw21.DualSteps': WHATEVER THE INPUT: true; the input reads as it did. -/
def dualStepsSpec : ChangeSpec := { name := "dualSteps", fn := fun _ => fun
  | [d1, d2] => { results := [.lit (.bool true)], args := [d1, d2] }
  | _ => none }
def dualStepsRow : OpenClaim := { program := "ytjcgdcadflplcaadoor", sum := "4cc75331eaf33fbcbb59fd97ac5be5dcefa56bd321cfb241478b63736299de4a", func := "rota/rotalaw21.DualSteps", spec := "dualSteps", inPlace := ["sync/atomic.AddUint64", "sync/atomic.LoadUint64"], unfollowed := true, recurses := true, named := ["rota/sum.nibbles"], apart := false, laid := [("rota/sum.nibbles", laid_rota_sum_nibbles)] }
def DualStepsSaid : Prop := dualStepsRow.holds Tryd.pinned (OpenSpec.ofChange dualStepsSpec)

/-- ITS FALSE NEIGHBOUR: 'it returns false'. Refute it at one input. -/
def dualStepsWrong : ChangeSpec := { name := "dualSteps", fn := fun _ => fun
  | [d1, d2] => { results := [.lit (.bool false)], args := [d1, d2] }
  | _ => none }
def DualStepsWrongFalsely : Prop := dualStepsRow.holds Tryd.pinned (OpenSpec.ofChange dualStepsWrong)

/-- 'rotalaw21.DualNames': WHATEVER THE INPUT: true; the input reads as it did. -/
def dualNamesSpec : ChangeSpec := { name := "dualNames", fn := fun _ => fun
  | [] => { results := [.lit (.bool true)], args := [] }
  | _ => none }
def dualNamesRow : OpenClaim := { program := "ytjcgdcadflplcaadoor", sum := "4cc75331eaf33fbcbb59fd97ac5be5dcefa56bd321cfb241478b63736299de4a", func := "rota/rotalaw21.DualNames", spec := "dualNames", inPlace := ["sync/atomic.AddUint64", "sync/atomic.LoadUint64"], unfollowed := true, recurses := true, named := ["rota/sum.nibbles"], apart := false, laid := [("rota/sum.nibbles", laid_rota_sum_nibbles)] }
def DualNamesSaid : Prop := dualNamesRow.holds Tryd.pinned (OpenSpec.ofChange dualNamesSpec)

/-- ITS FALSE NEIGHBOUR: 'it returns false'. Refute it at one input. -/
def dualNamesWrong : ChangeSpec := { name := "dualNames", fn := fun _ => fun
  | [] => { results := [.lit (.bool false)], args := [] }
  | _ => none }
def DualNamesWrongFalsely : Prop := dualNamesRow.holds Tryd.pinned (OpenSpec.ofChange dualNamesWrong)

/-- 'rotalaw21.DualTurned': WHATEVER THE INPUT: true; the input reads as it did. -/
def dualTurnedSpec : ChangeSpec := { name := "dualTurned", fn := fun _ => fun
  | [d1, d2] => { results := [.lit (.bool true)], args := [d1, d2] }
  | _ => none }
def dualTurnedRow : OpenClaim := { program := "ytjcgdcadflplcaadoor", sum := "4cc75331eaf33fbcbb59fd97ac5be5dcefa56bd321cfb241478b63736299de4a", func := "rota/rotalaw21.DualTurned", spec := "dualTurned", inPlace := ["sync/atomic.AddUint64", "sync/atomic.LoadUint64"], unfollowed := true, recurses := true, named := ["rota/sum.nibbles"], apart := false, laid := [("rota/sum.nibbles", laid_rota_sum_nibbles)] }
def DualTurnedSaid : Prop := dualTurnedRow.holds Tryd.pinned (OpenSpec.ofChange dualTurnedSpec)

/-- ITS FALSE NEIGHBOUR: 'it returns false'. Refute it at one input. -/
def dualTurnedWrong : ChangeSpec := { name := "dualTurned", fn := fun _ => fun
  | [d1, d2] => { results := [.lit (.bool false)], args := [d1, d2] }
  | _ => none }
def DualTurnedWrongFalsely : Prop := dualTurnedRow.holds Tryd.pinned (OpenSpec.ofChange dualTurnedWrong)

/- THE SECOND FORM. 'bulk': how many values and letters a reading holds, each counted each time it is reached (what is shared counts as often as it is met; a slice's spare places count too). A statement '..UptoSaid' is the law's where the arguments, and the package variables that the reading takes, are together of bulk at most 1048576: NARROWER than '..Said'. Prove '..Said' where nothing that the law and all that it calls make is longer than what came in: it says more and counts as full. Else prove '..UptoSaid'. A law counts once. -/
mutual
def uptoBulk {H : Type} : DataW H → Nat
  | .lit (.string bytes) => bytes.length + 1
  | .lit _ => 1
  | .nil => 1
  | .ptr d => uptoBulk d + 1
  | .slice elems spare => uptoBulkAll elems + uptoBulkAll spare + 1
  | .agg parts => uptoBulkAll parts + 1
  | .iface _ d => uptoBulk d + 1
  | .map entries => uptoBulkEntries entries + 1
  | .held _ => 1
def uptoBulkAll {H : Type} : List (DataW H) → Nat
  | [] => 0
  | d :: r => uptoBulk d + uptoBulkAll r
def uptoBulkEntries {H : Type} : List (Lit × DataW H) → Nat
  | [] => 0
  | x :: r => uptoBulkEntry x + uptoBulkEntries r
def uptoBulkEntry {H : Type} : Lit × DataW H → Nat
  | (.string bytes, d) => bytes.length + uptoBulk d + 1
  | (_, d) => uptoBulk d + 1
 end
def uptoSmall : (H : Type) → List (DataW H) → Bool := fun _ ds => decide (uptoBulkAll ds ≤ 1048576)
def OpenSpec.upto (s : _root_.Go.ChangeSpec) : _root_.Go.OpenSpec := { _root_.Go.OpenSpec.ofChange s with cond := some uptoSmall }

/-- 'rotalaw21.DualChooses', WHERE WHAT IT READS IS OF BULK AT MOST 1048576: true; the input reads as it did. -/
def dualChoosesUptoRow : OpenClaim := { program := "ytjcgdcadflplcaadoor", sum := "4cc75331eaf33fbcbb59fd97ac5be5dcefa56bd321cfb241478b63736299de4a", func := "rota/rotalaw21.DualChooses", spec := "dualChooses", unfollowed := true, recurses := true, named := ["rota/sum.nibbles"], apart := false, laid := [("rota/sum.nibbles", laid_rota_sum_nibbles)], narrowed := true }
def DualChoosesUptoSaid : Prop := dualChoosesUptoRow.holds Tryd.pinned (OpenSpec.upto dualChoosesSpec)

/-- 'rotalaw21.DualOne', WHERE WHAT IT READS IS OF BULK AT MOST 1048576: true; the input reads as it did. -/
def dualOneUptoRow : OpenClaim := { program := "ytjcgdcadflplcaadoor", sum := "4cc75331eaf33fbcbb59fd97ac5be5dcefa56bd321cfb241478b63736299de4a", func := "rota/rotalaw21.DualOne", spec := "dualOne", inPlace := ["sync/atomic.AddUint64"], unfollowed := true, recurses := true, named := ["rota/sum.nibbles"], apart := false, laid := [("rota/sum.nibbles", laid_rota_sum_nibbles)], narrowed := true }
def DualOneUptoSaid : Prop := dualOneUptoRow.holds Tryd.pinned (OpenSpec.upto dualOneSpec)

/-- 'rotalaw21.DualSums', WHERE WHAT IT READS IS OF BULK AT MOST 1048576: true; the input reads as it did. -/
def dualSumsUptoRow : OpenClaim := { program := "ytjcgdcadflplcaadoor", sum := "4cc75331eaf33fbcbb59fd97ac5be5dcefa56bd321cfb241478b63736299de4a", func := "rota/rotalaw21.DualSums", spec := "dualSums", inPlace := ["sync/atomic.AddUint64"], unfollowed := true, recurses := true, named := ["rota/sum.nibbles"], apart := false, laid := [("rota/sum.nibbles", laid_rota_sum_nibbles)], narrowed := true }
def DualSumsUptoSaid : Prop := dualSumsUptoRow.holds Tryd.pinned (OpenSpec.upto dualSumsSpec)

/-- 'rotalaw21.DualSteps', WHERE WHAT IT READS IS OF BULK AT MOST 1048576: true; the input reads as it did. -/
def dualStepsUptoRow : OpenClaim := { program := "ytjcgdcadflplcaadoor", sum := "4cc75331eaf33fbcbb59fd97ac5be5dcefa56bd321cfb241478b63736299de4a", func := "rota/rotalaw21.DualSteps", spec := "dualSteps", inPlace := ["sync/atomic.AddUint64", "sync/atomic.LoadUint64"], unfollowed := true, recurses := true, named := ["rota/sum.nibbles"], apart := false, laid := [("rota/sum.nibbles", laid_rota_sum_nibbles)], narrowed := true }
def DualStepsUptoSaid : Prop := dualStepsUptoRow.holds Tryd.pinned (OpenSpec.upto dualStepsSpec)

/-- 'rotalaw21.DualNames', WHERE WHAT IT READS IS OF BULK AT MOST 1048576: true; the input reads as it did. -/
def dualNamesUptoRow : OpenClaim := { program := "ytjcgdcadflplcaadoor", sum := "4cc75331eaf33fbcbb59fd97ac5be5dcefa56bd321cfb241478b63736299de4a", func := "rota/rotalaw21.DualNames", spec := "dualNames", inPlace := ["sync/atomic.AddUint64", "sync/atomic.LoadUint64"], unfollowed := true, recurses := true, named := ["rota/sum.nibbles"], apart := false, laid := [("rota/sum.nibbles", laid_rota_sum_nibbles)], narrowed := true }
def DualNamesUptoSaid : Prop := dualNamesUptoRow.holds Tryd.pinned (OpenSpec.upto dualNamesSpec)

/-- 'rotalaw21.DualTurned', WHERE WHAT IT READS IS OF BULK AT MOST 1048576: true; the input reads as it did. -/
def dualTurnedUptoRow : OpenClaim := { program := "ytjcgdcadflplcaadoor", sum := "4cc75331eaf33fbcbb59fd97ac5be5dcefa56bd321cfb241478b63736299de4a", func := "rota/rotalaw21.DualTurned", spec := "dualTurned", inPlace := ["sync/atomic.AddUint64", "sync/atomic.LoadUint64"], unfollowed := true, recurses := true, named := ["rota/sum.nibbles"], apart := false, laid := [("rota/sum.nibbles", laid_rota_sum_nibbles)], narrowed := true }
def DualTurnedUptoSaid : Prop := dualTurnedUptoRow.holds Tryd.pinned (OpenSpec.upto dualTurnedSpec)

end Rows
end Go.Proofs.YtjcgdcadflplcaaDoor
