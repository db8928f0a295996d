/-
  DERIVED. GIVEN WITH THE SEED: THE CARDS: each row of YtallnbbdacngnaaDoorRows.lean that lists a variable, with what it lists TIED to the program's text (the seventh form; the later family's looks); each row that meets fmt, with fmt's text TOLD by the authors' own Lean function (tested against real Go, not proved from fmt's source: count such statements apart). THE CARD IS WHAT COUNTS. Prove the row's statement (the work); the ties are given (YtallnbbdacngnaaDoorTie.lean); close each card by the builder's one call (the guide's Derived/Test/ToyasCard.lean, 'card_holds'). Laid BY PROGRAM, IN A SANDBOX (cutbox-door.mjs). By AI agents, Wed Nov 11 2026. No macro, syntax, notation, axiom, sorry.
-/
import Derived.Test.YtallnbbdacngnaaDoorRows
import GoSem.ClaimSeven
namespace Go.Proofs.YtallnbbdacngnaaDoor
namespace Rows

/-- THE TIED CARD OF 'fastilaw10.GroupNumbersSpec'. -/
def groupNumbersSpecCard : Claim7 := { stood := { row := groupNumbersSpecRow, standIns := [], harness := (true, "f573b528de00280f9b1631445123e97f3b1557f269253411c8632e9de84c15d0"), looks := true }, kinds := [], alts := [], laidByText := true, laidKinds := [.data, .data], laidTests := true, laidLooks := .later }
def GroupNumbersSpecCardSaid : Prop := Claim7.holds Tryd.pinned (.plain (OpenSpec.ofChange groupNumbersSpecSpec)) groupNumbersSpecCard

/-- THE TIED CARD OF 'fastilaw10.GroupHash'. -/
def groupHashCard : Claim7 := { stood := { row := groupHashRow, standIns := [], harness := (true, "f573b528de00280f9b1631445123e97f3b1557f269253411c8632e9de84c15d0"), looks := true }, kinds := [], alts := [], laidByText := true, laidKinds := [.data, .data], laidTests := true, laidLooks := .later }
def GroupHashCardSaid : Prop := Claim7.holds Tryd.pinned (.plain (OpenSpec.ofChange groupHashSpec)) groupHashCard

/-- THE TIED CARD OF 'fastilaw08.ChainAddSpec'. -/
def chainAddSpecCard : Claim7 := { stood := { row := chainAddSpecRow, standIns := [], harness := (true, "f573b528de00280f9b1631445123e97f3b1557f269253411c8632e9de84c15d0"), looks := true }, kinds := [], alts := [], laidByText := true, laidKinds := [.data, .data], laidTests := true, laidLooks := .later }
def ChainAddSpecCardSaid : Prop := Claim7.holds Tryd.pinned (.plain (OpenSpec.ofChange chainAddSpecSpec)) chainAddSpecCard

/-- THE TIED CARD OF 'fastilaw08.ChainBuilt'. -/
def chainBuiltCard : Claim7 := { stood := { row := chainBuiltRow, standIns := [], harness := (true, "f573b528de00280f9b1631445123e97f3b1557f269253411c8632e9de84c15d0"), looks := true }, kinds := [], alts := [], laidByText := true, laidKinds := [.data, .data], laidTests := true, laidLooks := .later }
def ChainBuiltCardSaid : Prop := Claim7.holds Tryd.pinned (.plain (OpenSpec.ofChange chainBuiltSpec)) chainBuiltCard

/-- THE TIED CARD OF 'fastilaw08.ChainEqual'. -/
def chainEqualCard : Claim7 := { stood := { row := chainEqualRow, standIns := [], harness := (true, "f573b528de00280f9b1631445123e97f3b1557f269253411c8632e9de84c15d0"), looks := true }, kinds := [], alts := [], laidByText := true, laidKinds := [.data, .data], laidTests := true, laidLooks := .later }
def ChainEqualCardSaid : Prop := Claim7.holds Tryd.pinned (.plain (OpenSpec.ofChange chainEqualSpec)) chainEqualCard

/-- THE TIED CARD OF 'fastilaw08.ChainChanged'. -/
def chainChangedCard : Claim7 := { stood := { row := chainChangedRow, standIns := [], harness := (true, "f573b528de00280f9b1631445123e97f3b1557f269253411c8632e9de84c15d0"), looks := true }, kinds := [], alts := [], laidByText := true, laidKinds := [.data, .data], laidTests := true, laidLooks := .later }
def ChainChangedCardSaid : Prop := Claim7.holds Tryd.pinned (.plain (OpenSpec.ofChange chainChangedSpec)) chainChangedCard

/-- THE TIED CARD OF 'fastilaw08.ChainParts'. -/
def chainPartsCard : Claim7 := { stood := { row := chainPartsRow, standIns := [], harness := (true, "f573b528de00280f9b1631445123e97f3b1557f269253411c8632e9de84c15d0"), looks := true }, kinds := [], alts := [], laidByText := true, laidKinds := [.data, .data], laidTests := true, laidLooks := .later }
def ChainPartsCardSaid : Prop := Claim7.holds Tryd.pinned (.plain (OpenSpec.ofChange chainPartsSpec)) chainPartsCard

/-- THE TIED CARD OF 'fastilaw11.SignSpec'. -/
def signSpecCard : Claim7 := { stood := { row := signSpecRow, standIns := [], harness := (true, "f573b528de00280f9b1631445123e97f3b1557f269253411c8632e9de84c15d0"), looks := true }, kinds := [], alts := [], laidByText := true, laidKinds := [.data, .data], laidTests := true, laidLooks := .later }
def SignSpecCardSaid : Prop := Claim7.holds Tryd.pinned (.plain (OpenSpec.ofChange signSpecSpec)) signSpecCard

/-- THE TIED CARD OF 'fastilaw11.SignRight'. -/
def signRightCard : Claim7 := { stood := { row := signRightRow, standIns := [], harness := (true, "f573b528de00280f9b1631445123e97f3b1557f269253411c8632e9de84c15d0"), looks := true }, kinds := [], alts := [], laidByText := true, laidKinds := [.data, .data], laidTests := true, laidLooks := .later }
def SignRightCardSaid : Prop := Claim7.holds Tryd.pinned (.plain (OpenSpec.ofChange signRightSpec)) signRightCard

/-- THE TIED CARD OF 'fastilaw11.SignMeans'. -/
def signMeansCard : Claim7 := { stood := { row := signMeansRow, standIns := [], harness := (true, "f573b528de00280f9b1631445123e97f3b1557f269253411c8632e9de84c15d0"), looks := true }, kinds := [], alts := [], laidByText := true, laidKinds := [.data, .data], laidTests := true, laidLooks := .later }
def SignMeansCardSaid : Prop := Claim7.holds Tryd.pinned (.plain (OpenSpec.ofChange signMeansSpec)) signMeansCard

/-- THE TIED CARD OF 'fastilaw11.SignTwice'. -/
def signTwiceCard : Claim7 := { stood := { row := signTwiceRow, standIns := [], harness := (true, "f573b528de00280f9b1631445123e97f3b1557f269253411c8632e9de84c15d0"), looks := true }, kinds := [], alts := [], laidByText := true, laidKinds := [.data, .data], laidTests := true, laidLooks := .later }
def SignTwiceCardSaid : Prop := Claim7.holds Tryd.pinned (.plain (OpenSpec.ofChange signTwiceSpec)) signTwiceCard

/-- THE SECOND FORM's CARD OF 'fastilaw10.GroupNumbersSpec'. -/
def groupNumbersSpecUptoCard : Claim7 := { stood := { row := groupNumbersSpecUptoRow, standIns := [], harness := (true, "f573b528de00280f9b1631445123e97f3b1557f269253411c8632e9de84c15d0"), looks := true }, kinds := [], alts := [], laidByText := true, laidKinds := [.data, .data], laidTests := true, laidLooks := .later }
def GroupNumbersSpecUptoCardSaid : Prop := Claim7.holds Tryd.pinned (.plain (OpenSpec.upto groupNumbersSpecSpec)) groupNumbersSpecUptoCard

/-- THE SECOND FORM's CARD OF 'fastilaw10.GroupHash'. -/
def groupHashUptoCard : Claim7 := { stood := { row := groupHashUptoRow, standIns := [], harness := (true, "f573b528de00280f9b1631445123e97f3b1557f269253411c8632e9de84c15d0"), looks := true }, kinds := [], alts := [], laidByText := true, laidKinds := [.data, .data], laidTests := true, laidLooks := .later }
def GroupHashUptoCardSaid : Prop := Claim7.holds Tryd.pinned (.plain (OpenSpec.upto groupHashSpec)) groupHashUptoCard

/-- THE SECOND FORM's CARD OF 'fastilaw08.ChainAddSpec'. -/
def chainAddSpecUptoCard : Claim7 := { stood := { row := chainAddSpecUptoRow, standIns := [], harness := (true, "f573b528de00280f9b1631445123e97f3b1557f269253411c8632e9de84c15d0"), looks := true }, kinds := [], alts := [], laidByText := true, laidKinds := [.data, .data], laidTests := true, laidLooks := .later }
def ChainAddSpecUptoCardSaid : Prop := Claim7.holds Tryd.pinned (.plain (OpenSpec.upto chainAddSpecSpec)) chainAddSpecUptoCard

/-- THE SECOND FORM's CARD OF 'fastilaw08.ChainBuilt'. -/
def chainBuiltUptoCard : Claim7 := { stood := { row := chainBuiltUptoRow, standIns := [], harness := (true, "f573b528de00280f9b1631445123e97f3b1557f269253411c8632e9de84c15d0"), looks := true }, kinds := [], alts := [], laidByText := true, laidKinds := [.data, .data], laidTests := true, laidLooks := .later }
def ChainBuiltUptoCardSaid : Prop := Claim7.holds Tryd.pinned (.plain (OpenSpec.upto chainBuiltSpec)) chainBuiltUptoCard

/-- THE SECOND FORM's CARD OF 'fastilaw08.ChainEqual'. -/
def chainEqualUptoCard : Claim7 := { stood := { row := chainEqualUptoRow, standIns := [], harness := (true, "f573b528de00280f9b1631445123e97f3b1557f269253411c8632e9de84c15d0"), looks := true }, kinds := [], alts := [], laidByText := true, laidKinds := [.data, .data], laidTests := true, laidLooks := .later }
def ChainEqualUptoCardSaid : Prop := Claim7.holds Tryd.pinned (.plain (OpenSpec.upto chainEqualSpec)) chainEqualUptoCard

/-- THE SECOND FORM's CARD OF 'fastilaw08.ChainChanged'. -/
def chainChangedUptoCard : Claim7 := { stood := { row := chainChangedUptoRow, standIns := [], harness := (true, "f573b528de00280f9b1631445123e97f3b1557f269253411c8632e9de84c15d0"), looks := true }, kinds := [], alts := [], laidByText := true, laidKinds := [.data, .data], laidTests := true, laidLooks := .later }
def ChainChangedUptoCardSaid : Prop := Claim7.holds Tryd.pinned (.plain (OpenSpec.upto chainChangedSpec)) chainChangedUptoCard

/-- THE SECOND FORM's CARD OF 'fastilaw08.ChainParts'. -/
def chainPartsUptoCard : Claim7 := { stood := { row := chainPartsUptoRow, standIns := [], harness := (true, "f573b528de00280f9b1631445123e97f3b1557f269253411c8632e9de84c15d0"), looks := true }, kinds := [], alts := [], laidByText := true, laidKinds := [.data, .data], laidTests := true, laidLooks := .later }
def ChainPartsUptoCardSaid : Prop := Claim7.holds Tryd.pinned (.plain (OpenSpec.upto chainPartsSpec)) chainPartsUptoCard

/-- THE SECOND FORM's CARD OF 'fastilaw11.SignSpec'. -/
def signSpecUptoCard : Claim7 := { stood := { row := signSpecUptoRow, standIns := [], harness := (true, "f573b528de00280f9b1631445123e97f3b1557f269253411c8632e9de84c15d0"), looks := true }, kinds := [], alts := [], laidByText := true, laidKinds := [.data, .data], laidTests := true, laidLooks := .later }
def SignSpecUptoCardSaid : Prop := Claim7.holds Tryd.pinned (.plain (OpenSpec.upto signSpecSpec)) signSpecUptoCard

/-- THE SECOND FORM's CARD OF 'fastilaw11.SignRight'. -/
def signRightUptoCard : Claim7 := { stood := { row := signRightUptoRow, standIns := [], harness := (true, "f573b528de00280f9b1631445123e97f3b1557f269253411c8632e9de84c15d0"), looks := true }, kinds := [], alts := [], laidByText := true, laidKinds := [.data, .data], laidTests := true, laidLooks := .later }
def SignRightUptoCardSaid : Prop := Claim7.holds Tryd.pinned (.plain (OpenSpec.upto signRightSpec)) signRightUptoCard

/-- THE SECOND FORM's CARD OF 'fastilaw11.SignMeans'. -/
def signMeansUptoCard : Claim7 := { stood := { row := signMeansUptoRow, standIns := [], harness := (true, "f573b528de00280f9b1631445123e97f3b1557f269253411c8632e9de84c15d0"), looks := true }, kinds := [], alts := [], laidByText := true, laidKinds := [.data, .data], laidTests := true, laidLooks := .later }
def SignMeansUptoCardSaid : Prop := Claim7.holds Tryd.pinned (.plain (OpenSpec.upto signMeansSpec)) signMeansUptoCard

/-- THE SECOND FORM's CARD OF 'fastilaw11.SignTwice'. -/
def signTwiceUptoCard : Claim7 := { stood := { row := signTwiceUptoRow, standIns := [], harness := (true, "f573b528de00280f9b1631445123e97f3b1557f269253411c8632e9de84c15d0"), looks := true }, kinds := [], alts := [], laidByText := true, laidKinds := [.data, .data], laidTests := true, laidLooks := .later }
def SignTwiceUptoCardSaid : Prop := Claim7.holds Tryd.pinned (.plain (OpenSpec.upto signTwiceSpec)) signTwiceUptoCard
end Rows
end Go.Proofs.YtallnbbdacngnaaDoor
