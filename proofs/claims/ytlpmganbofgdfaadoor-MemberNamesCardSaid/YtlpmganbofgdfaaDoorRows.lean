/-
  NARROWER THAN 'FOR EVERY INPUT', by the rows' own cells (each row's printed sentence says how): MemberAgree: laid · MemberPlays: laid · MemberHeals: laid · MemberStarts: laid · MemberNames: laid.
  DERIVED. THE GIVEN ROWS OF THIS SEAT. 5 by the template 'for every input the law returns true; each argument reads behind the call as it read before'; 0 by the template 'total and deterministic' (their statements: YtlpmganbofgdfaaDoorTotals.lean).
  GIVEN WITH THE SEED: the statements are not yours to turn. If you find one false, say at which input.
  Laid BY PROGRAM, IN A SANDBOX (cutbox-rows.mjs): the forced cells as the released guide's own fill.sh prints them over the translation c5c6877726e99bc5… (all of the seat's roots in one cut). By AI agents, Wed Nov 11 2026. No macro, syntax, notation, axiom, sorry.
-/
import Derived.Test.YtlpmganbofgdfaaDoorChecked
import GoSem.Claim
import GoSem.ClaimJoined
import GoSem.ClaimMapViews
import Derived.JoinedTies
import Derived.KernelRfl
namespace Go.Proofs.YtlpmganbofgdfaaDoor
/- THE CELL 'sum', in the pinned program and in every row, IS THE sha256 OF THE DUMP (.gsa) THAT YtlpmganbofgdfaaDoorProg.lean LOADS. Nothing in Lean hashes anything: it is a label: what it is worth is what the hold of that sum in a sandbox is worth. -/
noncomputable def Tryd.pinned : Pinned := { name := "ytlpmganbofgdfaadoor", sum := "c5c6877726e99bc51d532279711916e025f370822bcaa2cd43edafaed4de42a5", checked := Tryd.checked }
namespace Rows
def none {H : Type} : Left H := { results := [], args := [] }

/- WHAT THE LISTED PACKAGE-LEVEL VARIABLES READ AS WHEN THE CALL BEGINS. Each datum BY PROGRAM (the guide's laid-datum.mjs) off the statement by which the dump's own 'gosem.cut.vars' lays the variable. In a bare row this is a premise. The card (YtlpmganbofgdfaaDoorCards.lean) ties it to the program's text. -/
def laid_rota_sum_nibbles {H : Type} : DataW H := .agg [.lit (.int .u32 0), .lit (.int .u32 498536548), .lit (.int .u32 997073096), .lit (.int .u32 651767980), .lit (.int .u32 1994146192), .lit (.int .u32 1802195444), .lit (.int .u32 1303535960), .lit (.int .u32 1342533948), .lit (.int .u32 3988292384), .lit (.int .u32 4027552580), .lit (.int .u32 3604390888), .lit (.int .u32 3412177804), .lit (.int .u32 2607071920), .lit (.int .u32 2262029012), .lit (.int .u32 2685067896), .lit (.int .u32 3183342108)]

/-- 'rotalaw09.MemberAgree': WHATEVER THE INPUT: true; the input reads as it did. -/
def memberAgreeSpec : ChangeSpec := { name := "memberAgree", fn := fun _ => fun
  | [d1, d2] => { results := [.lit (.bool true)], args := [d1, d2] }
  | _ => none }
def memberAgreeRow : OpenClaim := { program := "ytlpmganbofgdfaadoor", sum := "c5c6877726e99bc51d532279711916e025f370822bcaa2cd43edafaed4de42a5", func := "rota/rotalaw09.MemberAgree", spec := "memberAgree", unfollowed := true, recurses := true, named := ["rota/sum.nibbles"], apart := false, laid := [("rota/sum.nibbles", laid_rota_sum_nibbles)] }
def MemberAgreeSaid : Prop := memberAgreeRow.holds Tryd.pinned (OpenSpec.ofChange memberAgreeSpec)

/-- ITS FALSE NEIGHBOUR: 'it returns false'. Refute it at one input. -/
def memberAgreeWrong : ChangeSpec := { name := "memberAgree", fn := fun _ => fun
  | [d1, d2] => { results := [.lit (.bool false)], args := [d1, d2] }
  | _ => none }
def MemberAgreeWrongFalsely : Prop := memberAgreeRow.holds Tryd.pinned (OpenSpec.ofChange memberAgreeWrong)

/-- 'rotalaw09.MemberPlays': WHATEVER THE INPUT: true; the input reads as it did. -/
def memberPlaysSpec : ChangeSpec := { name := "memberPlays", fn := fun _ => fun
  | [d1, d2, d3] => { results := [.lit (.bool true)], args := [d1, d2, d3] }
  | _ => none }
def memberPlaysRow : OpenClaim := { program := "ytlpmganbofgdfaadoor", sum := "c5c6877726e99bc51d532279711916e025f370822bcaa2cd43edafaed4de42a5", func := "rota/rotalaw09.MemberPlays", spec := "memberPlays", unfollowed := true, recurses := true, named := ["rota/sum.nibbles"], apart := false, laid := [("rota/sum.nibbles", laid_rota_sum_nibbles)] }
def MemberPlaysSaid : Prop := memberPlaysRow.holds Tryd.pinned (OpenSpec.ofChange memberPlaysSpec)

/-- ITS FALSE NEIGHBOUR: 'it returns false'. Refute it at one input. -/
def memberPlaysWrong : ChangeSpec := { name := "memberPlays", fn := fun _ => fun
  | [d1, d2, d3] => { results := [.lit (.bool false)], args := [d1, d2, d3] }
  | _ => none }
def MemberPlaysWrongFalsely : Prop := memberPlaysRow.holds Tryd.pinned (OpenSpec.ofChange memberPlaysWrong)

/-- 'rotalaw09.MemberHeals': WHATEVER THE INPUT: true; the input reads as it did. -/
def memberHealsSpec : ChangeSpec := { name := "memberHeals", fn := fun _ => fun
  | [d1, d2] => { results := [.lit (.bool true)], args := [d1, d2] }
  | _ => none }
def memberHealsRow : OpenClaim := { program := "ytlpmganbofgdfaadoor", sum := "c5c6877726e99bc51d532279711916e025f370822bcaa2cd43edafaed4de42a5", func := "rota/rotalaw09.MemberHeals", spec := "memberHeals", unfollowed := true, recurses := true, named := ["rota/sum.nibbles"], apart := false, laid := [("rota/sum.nibbles", laid_rota_sum_nibbles)] }
def MemberHealsSaid : Prop := memberHealsRow.holds Tryd.pinned (OpenSpec.ofChange memberHealsSpec)

/-- ITS FALSE NEIGHBOUR: 'it returns false'. Refute it at one input. -/
def memberHealsWrong : ChangeSpec := { name := "memberHeals", fn := fun _ => fun
  | [d1, d2] => { results := [.lit (.bool false)], args := [d1, d2] }
  | _ => none }
def MemberHealsWrongFalsely : Prop := memberHealsRow.holds Tryd.pinned (OpenSpec.ofChange memberHealsWrong)

/-- 'rotalaw09.MemberStarts': WHATEVER THE INPUT: true; the input reads as it did. -/
def memberStartsSpec : ChangeSpec := { name := "memberStarts", fn := fun _ => fun
  | [d1, d2] => { results := [.lit (.bool true)], args := [d1, d2] }
  | _ => none }
def memberStartsRow : OpenClaim := { program := "ytlpmganbofgdfaadoor", sum := "c5c6877726e99bc51d532279711916e025f370822bcaa2cd43edafaed4de42a5", func := "rota/rotalaw09.MemberStarts", spec := "memberStarts", unfollowed := true, recurses := true, named := ["rota/sum.nibbles"], apart := false, laid := [("rota/sum.nibbles", laid_rota_sum_nibbles)] }
def MemberStartsSaid : Prop := memberStartsRow.holds Tryd.pinned (OpenSpec.ofChange memberStartsSpec)

/-- ITS FALSE NEIGHBOUR: 'it returns false'. Refute it at one input. -/
def memberStartsWrong : ChangeSpec := { name := "memberStarts", fn := fun _ => fun
  | [d1, d2] => { results := [.lit (.bool false)], args := [d1, d2] }
  | _ => none }
def MemberStartsWrongFalsely : Prop := memberStartsRow.holds Tryd.pinned (OpenSpec.ofChange memberStartsWrong)

/-- 'rotalaw09.MemberNames': WHATEVER THE INPUT: true; the input reads as it did. -/
def memberNamesSpec : ChangeSpec := { name := "memberNames", fn := fun _ => fun
  | [] => { results := [.lit (.bool true)], args := [] }
  | _ => none }
def memberNamesRow : OpenClaim := { program := "ytlpmganbofgdfaadoor", sum := "c5c6877726e99bc51d532279711916e025f370822bcaa2cd43edafaed4de42a5", func := "rota/rotalaw09.MemberNames", spec := "memberNames", unfollowed := true, recurses := true, named := ["rota/sum.nibbles"], apart := false, laid := [("rota/sum.nibbles", laid_rota_sum_nibbles)] }
def MemberNamesSaid : Prop := memberNamesRow.holds Tryd.pinned (OpenSpec.ofChange memberNamesSpec)

/-- ITS FALSE NEIGHBOUR: 'it returns false'. Refute it at one input. -/
def memberNamesWrong : ChangeSpec := { name := "memberNames", fn := fun _ => fun
  | [] => { results := [.lit (.bool false)], args := [] }
  | _ => none }
def MemberNamesWrongFalsely : Prop := memberNamesRow.holds Tryd.pinned (OpenSpec.ofChange memberNamesWrong)

/- THE SECOND FORM. 'bulk': how many values and letters a reading holds, each counted each time it is reached (what is shared counts as often as it is met; a slice's spare places count too). A statement '..UptoSaid' is the law's where the arguments, and the package variables that the reading takes, are together of bulk at most 1048576: NARROWER than '..Said'. Prove '..Said' where nothing that the law and all that it calls make is longer than what came in: it says more and counts as full. Else prove '..UptoSaid'. A law counts once. -/
mutual
def uptoBulk {H : Type} : DataW H → Nat
  | .lit (.string bytes) => bytes.length + 1
  | .lit _ => 1
  | .nil => 1
  | .ptr d => uptoBulk d + 1
  | .slice elems spare => uptoBulkAll elems + uptoBulkAll spare + 1
  | .agg parts => uptoBulkAll parts + 1
  | .iface _ d => uptoBulk d + 1
  | .map entries => uptoBulkEntries entries + 1
  | .held _ => 1
def uptoBulkAll {H : Type} : List (DataW H) → Nat
  | [] => 0
  | d :: r => uptoBulk d + uptoBulkAll r
def uptoBulkEntries {H : Type} : List (Lit × DataW H) → Nat
  | [] => 0
  | x :: r => uptoBulkEntry x + uptoBulkEntries r
def uptoBulkEntry {H : Type} : Lit × DataW H → Nat
  | (.string bytes, d) => bytes.length + uptoBulk d + 1
  | (_, d) => uptoBulk d + 1
 end
def uptoSmall : (H : Type) → List (DataW H) → Bool := fun _ ds => decide (uptoBulkAll ds ≤ 1048576)
def OpenSpec.upto (s : _root_.Go.ChangeSpec) : _root_.Go.OpenSpec := { _root_.Go.OpenSpec.ofChange s with cond := some uptoSmall }

/-- 'rotalaw09.MemberAgree', WHERE WHAT IT READS IS OF BULK AT MOST 1048576: true; the input reads as it did. -/
def memberAgreeUptoRow : OpenClaim := { program := "ytlpmganbofgdfaadoor", sum := "c5c6877726e99bc51d532279711916e025f370822bcaa2cd43edafaed4de42a5", func := "rota/rotalaw09.MemberAgree", spec := "memberAgree", unfollowed := true, recurses := true, named := ["rota/sum.nibbles"], apart := false, laid := [("rota/sum.nibbles", laid_rota_sum_nibbles)], narrowed := true }
def MemberAgreeUptoSaid : Prop := memberAgreeUptoRow.holds Tryd.pinned (OpenSpec.upto memberAgreeSpec)

/-- 'rotalaw09.MemberPlays', WHERE WHAT IT READS IS OF BULK AT MOST 1048576: true; the input reads as it did. -/
def memberPlaysUptoRow : OpenClaim := { program := "ytlpmganbofgdfaadoor", sum := "c5c6877726e99bc51d532279711916e025f370822bcaa2cd43edafaed4de42a5", func := "rota/rotalaw09.MemberPlays", spec := "memberPlays", unfollowed := true, recurses := true, named := ["rota/sum.nibbles"], apart := false, laid := [("rota/sum.nibbles", laid_rota_sum_nibbles)], narrowed := true }
def MemberPlaysUptoSaid : Prop := memberPlaysUptoRow.holds Tryd.pinned (OpenSpec.upto memberPlaysSpec)

/-- 'rotalaw09.MemberHeals', WHERE WHAT IT READS IS OF BULK AT MOST 1048576: true; the input reads as it did. -/
def memberHealsUptoRow : OpenClaim := { program := "ytlpmganbofgdfaadoor", sum := "c5c6877726e99bc51d532279711916e025f370822bcaa2cd43edafaed4de42a5", func := "rota/rotalaw09.MemberHeals", spec := "memberHeals", unfollowed := true, recurses := true, named := ["rota/sum.nibbles"], apart := false, laid := [("rota/sum.nibbles", laid_rota_sum_nibbles)], narrowed := true }
def MemberHealsUptoSaid : Prop := memberHealsUptoRow.holds Tryd.pinned (OpenSpec.upto memberHealsSpec)

/-- 'rotalaw09.MemberStarts', WHERE WHAT IT READS IS OF BULK AT MOST 1048576: true; the input reads as it did. -/
def memberStartsUptoRow : OpenClaim := { program := "ytlpmganbofgdfaadoor", sum := "c5c6877726e99bc51d532279711916e025f370822bcaa2cd43edafaed4de42a5", func := "rota/rotalaw09.MemberStarts", spec := "memberStarts", unfollowed := true, recurses := true, named := ["rota/sum.nibbles"], apart := false, laid := [("rota/sum.nibbles", laid_rota_sum_nibbles)], narrowed := true }
def MemberStartsUptoSaid : Prop := memberStartsUptoRow.holds Tryd.pinned (OpenSpec.upto memberStartsSpec)

/-- 'rotalaw09.MemberNames', WHERE WHAT IT READS IS OF BULK AT MOST 1048576: true; the input reads as it did. -/
def memberNamesUptoRow : OpenClaim := { program := "ytlpmganbofgdfaadoor", sum := "c5c6877726e99bc51d532279711916e025f370822bcaa2cd43edafaed4de42a5", func := "rota/rotalaw09.MemberNames", spec := "memberNames", unfollowed := true, recurses := true, named := ["rota/sum.nibbles"], apart := false, laid := [("rota/sum.nibbles", laid_rota_sum_nibbles)], narrowed := true }
def MemberNamesUptoSaid : Prop := memberNamesUptoRow.holds Tryd.pinned (OpenSpec.upto memberNamesSpec)

end Rows
end Go.Proofs.YtlpmganbofgdfaaDoor
