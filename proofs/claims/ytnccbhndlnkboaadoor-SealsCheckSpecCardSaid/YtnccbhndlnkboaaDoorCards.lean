/-
  DERIVED. GIVEN WITH THE SEED: THE CARDS: each row of YtnccbhndlnkboaaDoorRows.lean that lists a variable, with what it lists TIED to the program's text (the seventh form; the later family's looks); each row that meets fmt, with fmt's text TOLD by the authors' own Lean function (tested against real Go, not proved from fmt's source: count such statements apart). THE CARD IS WHAT COUNTS. Prove the row's statement (the work); the ties are given (YtnccbhndlnkboaaDoorTie.lean); close each card by the builder's one call (the guide's Derived/Test/ToyasCard.lean, 'card_holds'). Laid BY PROGRAM, IN A SANDBOX (cutbox-door.mjs). By AI agents, Wed Nov 11 2026. No macro, syntax, notation, axiom, sorry.
-/
import Derived.Test.YtnccbhndlnkboaaDoorRows
import GoSem.ClaimSeven
namespace Go.Proofs.YtnccbhndlnkboaaDoor
namespace Rows

/-- THE TIED CARD OF 'fastilaw41.AccuseWait'. -/
def accuseWaitCard : Claim7 := { stood := { row := accuseWaitRow, standIns := [], harness := (true, "2eb6c21b51597ac9c49194e1617ef20de884b35cbf44b19358b910d3e4bd9647"), looks := false }, kinds := [], alts := [], laidByText := true, laidKinds := [.data, .data], laidTests := true, laidLooks := .later }
def AccuseWaitCardSaid : Prop := Claim7.holds Tryd.pinned (.plain (OpenSpec.ofChange accuseWaitSpec)) accuseWaitCard

/-- THE TIED CARD OF 'fastilaw39.SealsSpec'. -/
def sealsSpecCard : Claim7 := { stood := { row := sealsSpecRow, standIns := [], harness := (true, "2eb6c21b51597ac9c49194e1617ef20de884b35cbf44b19358b910d3e4bd9647"), looks := false }, kinds := [], alts := [], laidByText := true, laidKinds := [.data, .data], laidTests := true, laidLooks := .later }
def SealsSpecCardSaid : Prop := Claim7.holds Tryd.pinned (.plain (OpenSpec.ofChange sealsSpecSpec)) sealsSpecCard

/-- THE TIED CARD OF 'fastilaw39.SealsCheckSpec'. -/
def sealsCheckSpecCard : Claim7 := { stood := { row := sealsCheckSpecRow, standIns := [], harness := (true, "2eb6c21b51597ac9c49194e1617ef20de884b35cbf44b19358b910d3e4bd9647"), looks := false }, kinds := [], alts := [], laidByText := true, laidKinds := [.data, .data], laidTests := true, laidLooks := .later }
def SealsCheckSpecCardSaid : Prop := Claim7.holds Tryd.pinned (.plain (OpenSpec.ofChange sealsCheckSpecSpec)) sealsCheckSpecCard

/-- THE TIED CARD OF 'fastilaw39.SealsDays'. -/
def sealsDaysCard : Claim7 := { stood := { row := sealsDaysRow, standIns := [], harness := (true, "2eb6c21b51597ac9c49194e1617ef20de884b35cbf44b19358b910d3e4bd9647"), looks := false }, kinds := [], alts := [], laidByText := true, laidKinds := [.data, .data], laidTests := true, laidLooks := .later }
def SealsDaysCardSaid : Prop := Claim7.holds Tryd.pinned (.plain (OpenSpec.ofChange sealsDaysSpec)) sealsDaysCard

/-- THE TIED CARD OF 'fastilaw41.AccuseSpec'. -/
def accuseSpecCard : Claim7 := { stood := { row := accuseSpecRow, standIns := [], harness := (true, "2eb6c21b51597ac9c49194e1617ef20de884b35cbf44b19358b910d3e4bd9647"), looks := false }, kinds := [], alts := [], laidByText := true, laidKinds := [.data, .data], laidTests := true, laidLooks := .later }
def AccuseSpecCardSaid : Prop := Claim7.holds Tryd.pinned (.plain (OpenSpec.ofChange accuseSpecSpec)) accuseSpecCard

/-- THE TIED CARD OF 'fastilaw41.AccuseHonest'. -/
def accuseHonestCard : Claim7 := { stood := { row := accuseHonestRow, standIns := [], harness := (true, "2eb6c21b51597ac9c49194e1617ef20de884b35cbf44b19358b910d3e4bd9647"), looks := false }, kinds := [], alts := [], laidByText := true, laidKinds := [.data, .data], laidTests := true, laidLooks := .later }
def AccuseHonestCardSaid : Prop := Claim7.holds Tryd.pinned (.plain (OpenSpec.ofChange accuseHonestSpec)) accuseHonestCard

/-- THE TIED CARD OF 'fastilaw41.AccuseOthers'. -/
def accuseOthersCard : Claim7 := { stood := { row := accuseOthersRow, standIns := [], harness := (true, "2eb6c21b51597ac9c49194e1617ef20de884b35cbf44b19358b910d3e4bd9647"), looks := false }, kinds := [], alts := [], laidByText := true, laidKinds := [.data, .data], laidTests := true, laidLooks := .later }
def AccuseOthersCardSaid : Prop := Claim7.holds Tryd.pinned (.plain (OpenSpec.ofChange accuseOthersSpec)) accuseOthersCard

/-- THE SECOND FORM's CARD OF 'fastilaw41.AccuseWait'. -/
def accuseWaitUptoCard : Claim7 := { stood := { row := accuseWaitUptoRow, standIns := [], harness := (true, "2eb6c21b51597ac9c49194e1617ef20de884b35cbf44b19358b910d3e4bd9647"), looks := false }, kinds := [], alts := [], laidByText := true, laidKinds := [.data, .data], laidTests := true, laidLooks := .later }
def AccuseWaitUptoCardSaid : Prop := Claim7.holds Tryd.pinned (.plain (OpenSpec.upto accuseWaitSpec)) accuseWaitUptoCard

/-- THE SECOND FORM's CARD OF 'fastilaw39.SealsSpec'. -/
def sealsSpecUptoCard : Claim7 := { stood := { row := sealsSpecUptoRow, standIns := [], harness := (true, "2eb6c21b51597ac9c49194e1617ef20de884b35cbf44b19358b910d3e4bd9647"), looks := false }, kinds := [], alts := [], laidByText := true, laidKinds := [.data, .data], laidTests := true, laidLooks := .later }
def SealsSpecUptoCardSaid : Prop := Claim7.holds Tryd.pinned (.plain (OpenSpec.upto sealsSpecSpec)) sealsSpecUptoCard

/-- THE SECOND FORM's CARD OF 'fastilaw39.SealsCheckSpec'. -/
def sealsCheckSpecUptoCard : Claim7 := { stood := { row := sealsCheckSpecUptoRow, standIns := [], harness := (true, "2eb6c21b51597ac9c49194e1617ef20de884b35cbf44b19358b910d3e4bd9647"), looks := false }, kinds := [], alts := [], laidByText := true, laidKinds := [.data, .data], laidTests := true, laidLooks := .later }
def SealsCheckSpecUptoCardSaid : Prop := Claim7.holds Tryd.pinned (.plain (OpenSpec.upto sealsCheckSpecSpec)) sealsCheckSpecUptoCard

/-- THE SECOND FORM's CARD OF 'fastilaw39.SealsDays'. -/
def sealsDaysUptoCard : Claim7 := { stood := { row := sealsDaysUptoRow, standIns := [], harness := (true, "2eb6c21b51597ac9c49194e1617ef20de884b35cbf44b19358b910d3e4bd9647"), looks := false }, kinds := [], alts := [], laidByText := true, laidKinds := [.data, .data], laidTests := true, laidLooks := .later }
def SealsDaysUptoCardSaid : Prop := Claim7.holds Tryd.pinned (.plain (OpenSpec.upto sealsDaysSpec)) sealsDaysUptoCard

/-- THE SECOND FORM's CARD OF 'fastilaw41.AccuseSpec'. -/
def accuseSpecUptoCard : Claim7 := { stood := { row := accuseSpecUptoRow, standIns := [], harness := (true, "2eb6c21b51597ac9c49194e1617ef20de884b35cbf44b19358b910d3e4bd9647"), looks := false }, kinds := [], alts := [], laidByText := true, laidKinds := [.data, .data], laidTests := true, laidLooks := .later }
def AccuseSpecUptoCardSaid : Prop := Claim7.holds Tryd.pinned (.plain (OpenSpec.upto accuseSpecSpec)) accuseSpecUptoCard

/-- THE SECOND FORM's CARD OF 'fastilaw41.AccuseHonest'. -/
def accuseHonestUptoCard : Claim7 := { stood := { row := accuseHonestUptoRow, standIns := [], harness := (true, "2eb6c21b51597ac9c49194e1617ef20de884b35cbf44b19358b910d3e4bd9647"), looks := false }, kinds := [], alts := [], laidByText := true, laidKinds := [.data, .data], laidTests := true, laidLooks := .later }
def AccuseHonestUptoCardSaid : Prop := Claim7.holds Tryd.pinned (.plain (OpenSpec.upto accuseHonestSpec)) accuseHonestUptoCard

/-- THE SECOND FORM's CARD OF 'fastilaw41.AccuseOthers'. -/
def accuseOthersUptoCard : Claim7 := { stood := { row := accuseOthersUptoRow, standIns := [], harness := (true, "2eb6c21b51597ac9c49194e1617ef20de884b35cbf44b19358b910d3e4bd9647"), looks := false }, kinds := [], alts := [], laidByText := true, laidKinds := [.data, .data], laidTests := true, laidLooks := .later }
def AccuseOthersUptoCardSaid : Prop := Claim7.holds Tryd.pinned (.plain (OpenSpec.upto accuseOthersSpec)) accuseOthersUptoCard
end Rows
end Go.Proofs.YtnccbhndlnkboaaDoor
