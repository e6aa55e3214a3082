/-
  DERIVED. GIVEN WITH THE SEED: THE CARDS: each row of YtjcgdcadflplcaaDoorRows.lean that lists a variable, with what it lists TIED to the program's text (the seventh form; the later family's looks); each row that meets fmt, with fmt's text TOLD by the authors' own Lean function (tested against real Go, not proved from fmt's source: count such statements apart). THE CARD IS WHAT COUNTS. Prove the row's statement (the work); the ties are given (YtjcgdcadflplcaaDoorTie.lean); close each card by the builder's one call (the guide's Derived/Test/ToyasCard.lean, 'card_holds'). Laid BY PROGRAM, IN A SANDBOX (cutbox-door.mjs). By AI agents, Wed Nov 11 2026. No macro, syntax, notation, axiom, sorry.
-/
import Derived.Test.YtjcgdcadflplcaaDoorRows
import GoSem.ClaimSeven
namespace Go.Proofs.YtjcgdcadflplcaaDoor
namespace Rows

/-- THE TIED CARD OF 'rotalaw21.DualChooses'. -/
def dualChoosesCard : Claim7 := { stood := { row := dualChoosesRow, standIns := [], harness := (true, "e0f36413caa89a6cfcf9aadd7c576ed0e3005f924ef42bb6e358dbf54dccbbe5"), looks := false }, kinds := [], alts := [], laidByText := true, laidKinds := [.data], laidTests := true, laidLooks := .later }
def DualChoosesCardSaid : Prop := Claim7.holds Tryd.pinned (.plain (OpenSpec.ofChange dualChoosesSpec)) dualChoosesCard

/-- THE TIED CARD OF 'rotalaw21.DualOne'. -/
def dualOneCard : Claim7 := { stood := { row := dualOneRow, standIns := [], harness := (true, "e0f36413caa89a6cfcf9aadd7c576ed0e3005f924ef42bb6e358dbf54dccbbe5"), looks := false }, kinds := [], alts := [], laidByText := true, laidKinds := [.data], laidTests := true, laidLooks := .later }
def DualOneCardSaid : Prop := Claim7.holds Tryd.pinned (.plain (OpenSpec.ofChange dualOneSpec)) dualOneCard

/-- THE TIED CARD OF 'rotalaw21.DualSums'. -/
def dualSumsCard : Claim7 := { stood := { row := dualSumsRow, standIns := [], harness := (true, "e0f36413caa89a6cfcf9aadd7c576ed0e3005f924ef42bb6e358dbf54dccbbe5"), looks := false }, kinds := [], alts := [], laidByText := true, laidKinds := [.data], laidTests := true, laidLooks := .later }
def DualSumsCardSaid : Prop := Claim7.holds Tryd.pinned (.plain (OpenSpec.ofChange dualSumsSpec)) dualSumsCard

/-- THE TIED CARD OF 'rotalaw21.DualSteps'. -/
def dualStepsCard : Claim7 := { stood := { row := dualStepsRow, standIns := [], harness := (true, "e0f36413caa89a6cfcf9aadd7c576ed0e3005f924ef42bb6e358dbf54dccbbe5"), looks := false }, kinds := [], alts := [], laidByText := true, laidKinds := [.data], laidTests := true, laidLooks := .later }
def DualStepsCardSaid : Prop := Claim7.holds Tryd.pinned (.plain (OpenSpec.ofChange dualStepsSpec)) dualStepsCard

/-- THE TIED CARD OF 'rotalaw21.DualNames'. -/
def dualNamesCard : Claim7 := { stood := { row := dualNamesRow, standIns := [], harness := (true, "e0f36413caa89a6cfcf9aadd7c576ed0e3005f924ef42bb6e358dbf54dccbbe5"), looks := false }, kinds := [], alts := [], laidByText := true, laidKinds := [.data], laidTests := true, laidLooks := .later }
def DualNamesCardSaid : Prop := Claim7.holds Tryd.pinned (.plain (OpenSpec.ofChange dualNamesSpec)) dualNamesCard

/-- THE TIED CARD OF 'rotalaw21.DualTurned'. -/
def dualTurnedCard : Claim7 := { stood := { row := dualTurnedRow, standIns := [], harness := (true, "e0f36413caa89a6cfcf9aadd7c576ed0e3005f924ef42bb6e358dbf54dccbbe5"), looks := false }, kinds := [], alts := [], laidByText := true, laidKinds := [.data], laidTests := true, laidLooks := .later }
def DualTurnedCardSaid : Prop := Claim7.holds Tryd.pinned (.plain (OpenSpec.ofChange dualTurnedSpec)) dualTurnedCard

/-- THE SECOND FORM's CARD OF 'rotalaw21.DualChooses'. -/
def dualChoosesUptoCard : Claim7 := { stood := { row := dualChoosesUptoRow, standIns := [], harness := (true, "e0f36413caa89a6cfcf9aadd7c576ed0e3005f924ef42bb6e358dbf54dccbbe5"), looks := false }, kinds := [], alts := [], laidByText := true, laidKinds := [.data], laidTests := true, laidLooks := .later }
def DualChoosesUptoCardSaid : Prop := Claim7.holds Tryd.pinned (.plain (OpenSpec.upto dualChoosesSpec)) dualChoosesUptoCard

/-- THE SECOND FORM's CARD OF 'rotalaw21.DualOne'. -/
def dualOneUptoCard : Claim7 := { stood := { row := dualOneUptoRow, standIns := [], harness := (true, "e0f36413caa89a6cfcf9aadd7c576ed0e3005f924ef42bb6e358dbf54dccbbe5"), looks := false }, kinds := [], alts := [], laidByText := true, laidKinds := [.data], laidTests := true, laidLooks := .later }
def DualOneUptoCardSaid : Prop := Claim7.holds Tryd.pinned (.plain (OpenSpec.upto dualOneSpec)) dualOneUptoCard

/-- THE SECOND FORM's CARD OF 'rotalaw21.DualSums'. -/
def dualSumsUptoCard : Claim7 := { stood := { row := dualSumsUptoRow, standIns := [], harness := (true, "e0f36413caa89a6cfcf9aadd7c576ed0e3005f924ef42bb6e358dbf54dccbbe5"), looks := false }, kinds := [], alts := [], laidByText := true, laidKinds := [.data], laidTests := true, laidLooks := .later }
def DualSumsUptoCardSaid : Prop := Claim7.holds Tryd.pinned (.plain (OpenSpec.upto dualSumsSpec)) dualSumsUptoCard

/-- THE SECOND FORM's CARD OF 'rotalaw21.DualSteps'. -/
def dualStepsUptoCard : Claim7 := { stood := { row := dualStepsUptoRow, standIns := [], harness := (true, "e0f36413caa89a6cfcf9aadd7c576ed0e3005f924ef42bb6e358dbf54dccbbe5"), looks := false }, kinds := [], alts := [], laidByText := true, laidKinds := [.data], laidTests := true, laidLooks := .later }
def DualStepsUptoCardSaid : Prop := Claim7.holds Tryd.pinned (.plain (OpenSpec.upto dualStepsSpec)) dualStepsUptoCard

/-- THE SECOND FORM's CARD OF 'rotalaw21.DualNames'. -/
def dualNamesUptoCard : Claim7 := { stood := { row := dualNamesUptoRow, standIns := [], harness := (true, "e0f36413caa89a6cfcf9aadd7c576ed0e3005f924ef42bb6e358dbf54dccbbe5"), looks := false }, kinds := [], alts := [], laidByText := true, laidKinds := [.data], laidTests := true, laidLooks := .later }
def DualNamesUptoCardSaid : Prop := Claim7.holds Tryd.pinned (.plain (OpenSpec.upto dualNamesSpec)) dualNamesUptoCard

/-- THE SECOND FORM's CARD OF 'rotalaw21.DualTurned'. -/
def dualTurnedUptoCard : Claim7 := { stood := { row := dualTurnedUptoRow, standIns := [], harness := (true, "e0f36413caa89a6cfcf9aadd7c576ed0e3005f924ef42bb6e358dbf54dccbbe5"), looks := false }, kinds := [], alts := [], laidByText := true, laidKinds := [.data], laidTests := true, laidLooks := .later }
def DualTurnedUptoCardSaid : Prop := Claim7.holds Tryd.pinned (.plain (OpenSpec.upto dualTurnedSpec)) dualTurnedUptoCard
end Rows
end Go.Proofs.YtjcgdcadflplcaaDoor
