/-
  DERIVED. GIVEN WITH THE SEED: THE CARDS: each row of YtlpmganbofgdfaaDoorRows.lean that lists a variable, with what it lists TIED to the program's text (the seventh form; the later family's looks); each row that meets fmt, with fmt's text TOLD by the authors' own Lean function (tested against real Go, not proved from fmt's source: count such statements apart). THE CARD IS WHAT COUNTS. Prove the row's statement (the work); the ties are given (YtlpmganbofgdfaaDoorTie.lean); close each card by the builder's one call (the guide's Derived/Test/ToyasCard.lean, 'card_holds'). Laid BY PROGRAM, IN A SANDBOX (cutbox-door.mjs). By AI agents, Wed Nov 11 2026. No macro, syntax, notation, axiom, sorry.
-/
import Derived.Test.YtlpmganbofgdfaaDoorRows
import GoSem.ClaimSeven
namespace Go.Proofs.YtlpmganbofgdfaaDoor
namespace Rows

/-- THE TIED CARD OF 'rotalaw09.MemberAgree'. -/
def memberAgreeCard : Claim7 := { stood := { row := memberAgreeRow, standIns := [], harness := (true, "e02a602495e892627d8e0146501ebdd1ed3bed262eb30c2c69f8266cb3bb461a"), looks := false }, kinds := [], alts := [], laidByText := true, laidKinds := [.data], laidTests := true, laidLooks := .later }
def MemberAgreeCardSaid : Prop := Claim7.holds Tryd.pinned (.plain (OpenSpec.ofChange memberAgreeSpec)) memberAgreeCard

/-- THE TIED CARD OF 'rotalaw09.MemberPlays'. -/
def memberPlaysCard : Claim7 := { stood := { row := memberPlaysRow, standIns := [], harness := (true, "e02a602495e892627d8e0146501ebdd1ed3bed262eb30c2c69f8266cb3bb461a"), looks := false }, kinds := [], alts := [], laidByText := true, laidKinds := [.data], laidTests := true, laidLooks := .later }
def MemberPlaysCardSaid : Prop := Claim7.holds Tryd.pinned (.plain (OpenSpec.ofChange memberPlaysSpec)) memberPlaysCard

/-- THE TIED CARD OF 'rotalaw09.MemberHeals'. -/
def memberHealsCard : Claim7 := { stood := { row := memberHealsRow, standIns := [], harness := (true, "e02a602495e892627d8e0146501ebdd1ed3bed262eb30c2c69f8266cb3bb461a"), looks := false }, kinds := [], alts := [], laidByText := true, laidKinds := [.data], laidTests := true, laidLooks := .later }
def MemberHealsCardSaid : Prop := Claim7.holds Tryd.pinned (.plain (OpenSpec.ofChange memberHealsSpec)) memberHealsCard

/-- THE TIED CARD OF 'rotalaw09.MemberStarts'. -/
def memberStartsCard : Claim7 := { stood := { row := memberStartsRow, standIns := [], harness := (true, "e02a602495e892627d8e0146501ebdd1ed3bed262eb30c2c69f8266cb3bb461a"), looks := false }, kinds := [], alts := [], laidByText := true, laidKinds := [.data], laidTests := true, laidLooks := .later }
def MemberStartsCardSaid : Prop := Claim7.holds Tryd.pinned (.plain (OpenSpec.ofChange memberStartsSpec)) memberStartsCard

/-- THE TIED CARD OF 'rotalaw09.MemberNames'. -/
def memberNamesCard : Claim7 := { stood := { row := memberNamesRow, standIns := [], harness := (true, "e02a602495e892627d8e0146501ebdd1ed3bed262eb30c2c69f8266cb3bb461a"), looks := false }, kinds := [], alts := [], laidByText := true, laidKinds := [.data], laidTests := true, laidLooks := .later }
def MemberNamesCardSaid : Prop := Claim7.holds Tryd.pinned (.plain (OpenSpec.ofChange memberNamesSpec)) memberNamesCard

/-- THE SECOND FORM's CARD OF 'rotalaw09.MemberAgree'. -/
def memberAgreeUptoCard : Claim7 := { stood := { row := memberAgreeUptoRow, standIns := [], harness := (true, "e02a602495e892627d8e0146501ebdd1ed3bed262eb30c2c69f8266cb3bb461a"), looks := false }, kinds := [], alts := [], laidByText := true, laidKinds := [.data], laidTests := true, laidLooks := .later }
def MemberAgreeUptoCardSaid : Prop := Claim7.holds Tryd.pinned (.plain (OpenSpec.upto memberAgreeSpec)) memberAgreeUptoCard

/-- THE SECOND FORM's CARD OF 'rotalaw09.MemberPlays'. -/
def memberPlaysUptoCard : Claim7 := { stood := { row := memberPlaysUptoRow, standIns := [], harness := (true, "e02a602495e892627d8e0146501ebdd1ed3bed262eb30c2c69f8266cb3bb461a"), looks := false }, kinds := [], alts := [], laidByText := true, laidKinds := [.data], laidTests := true, laidLooks := .later }
def MemberPlaysUptoCardSaid : Prop := Claim7.holds Tryd.pinned (.plain (OpenSpec.upto memberPlaysSpec)) memberPlaysUptoCard

/-- THE SECOND FORM's CARD OF 'rotalaw09.MemberHeals'. -/
def memberHealsUptoCard : Claim7 := { stood := { row := memberHealsUptoRow, standIns := [], harness := (true, "e02a602495e892627d8e0146501ebdd1ed3bed262eb30c2c69f8266cb3bb461a"), looks := false }, kinds := [], alts := [], laidByText := true, laidKinds := [.data], laidTests := true, laidLooks := .later }
def MemberHealsUptoCardSaid : Prop := Claim7.holds Tryd.pinned (.plain (OpenSpec.upto memberHealsSpec)) memberHealsUptoCard

/-- THE SECOND FORM's CARD OF 'rotalaw09.MemberStarts'. -/
def memberStartsUptoCard : Claim7 := { stood := { row := memberStartsUptoRow, standIns := [], harness := (true, "e02a602495e892627d8e0146501ebdd1ed3bed262eb30c2c69f8266cb3bb461a"), looks := false }, kinds := [], alts := [], laidByText := true, laidKinds := [.data], laidTests := true, laidLooks := .later }
def MemberStartsUptoCardSaid : Prop := Claim7.holds Tryd.pinned (.plain (OpenSpec.upto memberStartsSpec)) memberStartsUptoCard

/-- THE SECOND FORM's CARD OF 'rotalaw09.MemberNames'. -/
def memberNamesUptoCard : Claim7 := { stood := { row := memberNamesUptoRow, standIns := [], harness := (true, "e02a602495e892627d8e0146501ebdd1ed3bed262eb30c2c69f8266cb3bb461a"), looks := false }, kinds := [], alts := [], laidByText := true, laidKinds := [.data], laidTests := true, laidLooks := .later }
def MemberNamesUptoCardSaid : Prop := Claim7.holds Tryd.pinned (.plain (OpenSpec.upto memberNamesSpec)) memberNamesUptoCard
end Rows
end Go.Proofs.YtlpmganbofgdfaaDoor
