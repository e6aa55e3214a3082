/-
  DERIVED. GIVEN WITH THE SEED: THE CARDS: each row of YtnepeleepmhdaaaDoorRows.lean that lists a variable, with what it lists TIED to the program's text (the seventh form; the later family's looks); each row that meets fmt, with fmt's text TOLD by the authors' own Lean function (tested against real Go, not proved from fmt's source: count such statements apart). THE CARD IS WHAT COUNTS. Prove the row's statement (the work); the ties are given (YtnepeleepmhdaaaDoorTie.lean); close each card by the builder's one call (the guide's Derived/Test/ToyasCard.lean, 'card_holds'). Laid BY PROGRAM, IN A SANDBOX (cutbox-door.mjs). By AI agents, Wed Nov 11 2026. No macro, syntax, notation, axiom, sorry.
-/
import Derived.Test.YtnepeleepmhdaaaDoorRows
import GoSem.ClaimSeven
namespace Go.Proofs.YtnepeleepmhdaaaDoor
namespace Rows

/-- THE TIED CARD OF 'rotalaw12.BitsHalves'. -/
def bitsHalvesCard : Claim7 := { stood := { row := bitsHalvesRow, standIns := [], harness := (true, "1be4ec00031e6b4c60af78e66a05e65d786c0b45b6c75a2e548b78c5959fbabd"), looks := false }, kinds := [], alts := [], laidByText := true, laidKinds := [.data], laidTests := true, laidLooks := .later }
def BitsHalvesCardSaid : Prop := Claim7.holds Tryd.pinned (.plain (OpenSpec.ofChange bitsHalvesSpec)) bitsHalvesCard

/-- THE TIED CARD OF 'rotalaw12.BitsTell'. -/
def bitsTellCard : Claim7 := { stood := { row := bitsTellRow, standIns := [], harness := (true, "1be4ec00031e6b4c60af78e66a05e65d786c0b45b6c75a2e548b78c5959fbabd"), looks := false }, kinds := [], alts := [], laidByText := true, laidKinds := [.data], laidTests := true, laidLooks := .later }
def BitsTellCardSaid : Prop := Claim7.holds Tryd.pinned (.plain (OpenSpec.ofChange bitsTellSpec)) bitsTellCard

/-- THE TIED CARD OF 'rotalaw12.BitsRanks'. -/
def bitsRanksCard : Claim7 := { stood := { row := bitsRanksRow, standIns := [], harness := (true, "1be4ec00031e6b4c60af78e66a05e65d786c0b45b6c75a2e548b78c5959fbabd"), looks := false }, kinds := [], alts := [], laidByText := true, laidKinds := [.data], laidTests := true, laidLooks := .later }
def BitsRanksCardSaid : Prop := Claim7.holds Tryd.pinned (.plain (OpenSpec.ofChange bitsRanksSpec)) bitsRanksCard

/-- THE TIED CARD OF 'rotalaw12.BitsRuns'. -/
def bitsRunsCard : Claim7 := { stood := { row := bitsRunsRow, standIns := [], harness := (true, "1be4ec00031e6b4c60af78e66a05e65d786c0b45b6c75a2e548b78c5959fbabd"), looks := false }, kinds := [], alts := [], laidByText := true, laidKinds := [.data], laidTests := true, laidLooks := .later }
def BitsRunsCardSaid : Prop := Claim7.holds Tryd.pinned (.plain (OpenSpec.ofChange bitsRunsSpec)) bitsRunsCard

/-- THE TIED CARD OF 'rotalaw12.BitsAll'. -/
def bitsAllCard : Claim7 := { stood := { row := bitsAllRow, standIns := [], harness := (true, "1be4ec00031e6b4c60af78e66a05e65d786c0b45b6c75a2e548b78c5959fbabd"), looks := false }, kinds := [], alts := [], laidByText := true, laidKinds := [.data], laidTests := true, laidLooks := .later }
def BitsAllCardSaid : Prop := Claim7.holds Tryd.pinned (.plain (OpenSpec.ofChange bitsAllSpec)) bitsAllCard

/-- THE TIED CARD OF 'rotalaw12.BitsOrder'. -/
def bitsOrderCard : Claim7 := { stood := { row := bitsOrderRow, standIns := [], harness := (true, "1be4ec00031e6b4c60af78e66a05e65d786c0b45b6c75a2e548b78c5959fbabd"), looks := false }, kinds := [], alts := [], laidByText := true, laidKinds := [.data], laidTests := true, laidLooks := .later }
def BitsOrderCardSaid : Prop := Claim7.holds Tryd.pinned (.plain (OpenSpec.ofChange bitsOrderSpec)) bitsOrderCard

/-- THE TIED CARD OF 'rotalaw12.BitsNames'. -/
def bitsNamesCard : Claim7 := { stood := { row := bitsNamesRow, standIns := [], harness := (true, "1be4ec00031e6b4c60af78e66a05e65d786c0b45b6c75a2e548b78c5959fbabd"), looks := false }, kinds := [], alts := [], laidByText := true, laidKinds := [.data], laidTests := true, laidLooks := .later }
def BitsNamesCardSaid : Prop := Claim7.holds Tryd.pinned (.plain (OpenSpec.ofChange bitsNamesSpec)) bitsNamesCard

/-- THE SECOND FORM's CARD OF 'rotalaw12.BitsHalves'. -/
def bitsHalvesUptoCard : Claim7 := { stood := { row := bitsHalvesUptoRow, standIns := [], harness := (true, "1be4ec00031e6b4c60af78e66a05e65d786c0b45b6c75a2e548b78c5959fbabd"), looks := false }, kinds := [], alts := [], laidByText := true, laidKinds := [.data], laidTests := true, laidLooks := .later }
def BitsHalvesUptoCardSaid : Prop := Claim7.holds Tryd.pinned (.plain (OpenSpec.upto bitsHalvesSpec)) bitsHalvesUptoCard

/-- THE SECOND FORM's CARD OF 'rotalaw12.BitsTell'. -/
def bitsTellUptoCard : Claim7 := { stood := { row := bitsTellUptoRow, standIns := [], harness := (true, "1be4ec00031e6b4c60af78e66a05e65d786c0b45b6c75a2e548b78c5959fbabd"), looks := false }, kinds := [], alts := [], laidByText := true, laidKinds := [.data], laidTests := true, laidLooks := .later }
def BitsTellUptoCardSaid : Prop := Claim7.holds Tryd.pinned (.plain (OpenSpec.upto bitsTellSpec)) bitsTellUptoCard

/-- THE SECOND FORM's CARD OF 'rotalaw12.BitsRanks'. -/
def bitsRanksUptoCard : Claim7 := { stood := { row := bitsRanksUptoRow, standIns := [], harness := (true, "1be4ec00031e6b4c60af78e66a05e65d786c0b45b6c75a2e548b78c5959fbabd"), looks := false }, kinds := [], alts := [], laidByText := true, laidKinds := [.data], laidTests := true, laidLooks := .later }
def BitsRanksUptoCardSaid : Prop := Claim7.holds Tryd.pinned (.plain (OpenSpec.upto bitsRanksSpec)) bitsRanksUptoCard

/-- THE SECOND FORM's CARD OF 'rotalaw12.BitsRuns'. -/
def bitsRunsUptoCard : Claim7 := { stood := { row := bitsRunsUptoRow, standIns := [], harness := (true, "1be4ec00031e6b4c60af78e66a05e65d786c0b45b6c75a2e548b78c5959fbabd"), looks := false }, kinds := [], alts := [], laidByText := true, laidKinds := [.data], laidTests := true, laidLooks := .later }
def BitsRunsUptoCardSaid : Prop := Claim7.holds Tryd.pinned (.plain (OpenSpec.upto bitsRunsSpec)) bitsRunsUptoCard

/-- THE SECOND FORM's CARD OF 'rotalaw12.BitsAll'. -/
def bitsAllUptoCard : Claim7 := { stood := { row := bitsAllUptoRow, standIns := [], harness := (true, "1be4ec00031e6b4c60af78e66a05e65d786c0b45b6c75a2e548b78c5959fbabd"), looks := false }, kinds := [], alts := [], laidByText := true, laidKinds := [.data], laidTests := true, laidLooks := .later }
def BitsAllUptoCardSaid : Prop := Claim7.holds Tryd.pinned (.plain (OpenSpec.upto bitsAllSpec)) bitsAllUptoCard

/-- THE SECOND FORM's CARD OF 'rotalaw12.BitsOrder'. -/
def bitsOrderUptoCard : Claim7 := { stood := { row := bitsOrderUptoRow, standIns := [], harness := (true, "1be4ec00031e6b4c60af78e66a05e65d786c0b45b6c75a2e548b78c5959fbabd"), looks := false }, kinds := [], alts := [], laidByText := true, laidKinds := [.data], laidTests := true, laidLooks := .later }
def BitsOrderUptoCardSaid : Prop := Claim7.holds Tryd.pinned (.plain (OpenSpec.upto bitsOrderSpec)) bitsOrderUptoCard

/-- THE SECOND FORM's CARD OF 'rotalaw12.BitsNames'. -/
def bitsNamesUptoCard : Claim7 := { stood := { row := bitsNamesUptoRow, standIns := [], harness := (true, "1be4ec00031e6b4c60af78e66a05e65d786c0b45b6c75a2e548b78c5959fbabd"), looks := false }, kinds := [], alts := [], laidByText := true, laidKinds := [.data], laidTests := true, laidLooks := .later }
def BitsNamesUptoCardSaid : Prop := Claim7.holds Tryd.pinned (.plain (OpenSpec.upto bitsNamesSpec)) bitsNamesUptoCard
end Rows
end Go.Proofs.YtnepeleepmhdaaaDoor
