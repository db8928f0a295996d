/-
  DERIVED. GIVEN WITH THE SEED: THE CARDS: each row of YthokpfegfnpmhaaDoorRows.lean that lists a variable, with what it lists TIED to the program's text (the seventh form; the later family's looks); each row that meets fmt, with fmt's text TOLD by the authors' own Lean function (tested against real Go, not proved from fmt's source: count such statements apart). THE CARD IS WHAT COUNTS. Prove the row's statement (the work); the ties are given (YthokpfegfnpmhaaDoorTie.lean); close each card by the builder's one call (the guide's Derived/Test/ToyasCard.lean, 'card_holds'). Laid BY PROGRAM, IN A SANDBOX (cutbox-door.mjs). By AI agents, Wed Nov 11 2026. No macro, syntax, notation, axiom, sorry.
-/
import Derived.Test.YthokpfegfnpmhaaDoorRows
import GoSem.ClaimSeven
namespace Go.Proofs.YthokpfegfnpmhaaDoor
namespace Rows

/-- THE TIED CARD OF 'fastilaw08.ChainAddSpec'. -/
def chainAddSpecCard : Claim7 := { stood := { row := chainAddSpecRow, standIns := [], harness := (true, "590fb5b68781ebc04ddff26f7eb5cdf1cbb403a92fcfbe617a5e6b55f85a9c97"), looks := true }, kinds := [], alts := [], laidByText := true, laidKinds := [.data, .data], laidTests := true, laidLooks := .later }
def ChainAddSpecCardSaid : Prop := Claim7.holds Tryd.pinned (.plain (OpenSpec.ofChange chainAddSpecSpec)) chainAddSpecCard

/-- THE TIED CARD OF 'fastilaw08.ChainBuilt'. -/
def chainBuiltCard : Claim7 := { stood := { row := chainBuiltRow, standIns := [], harness := (true, "590fb5b68781ebc04ddff26f7eb5cdf1cbb403a92fcfbe617a5e6b55f85a9c97"), looks := true }, kinds := [], alts := [], laidByText := true, laidKinds := [.data, .data], laidTests := true, laidLooks := .later }
def ChainBuiltCardSaid : Prop := Claim7.holds Tryd.pinned (.plain (OpenSpec.ofChange chainBuiltSpec)) chainBuiltCard

/-- THE TIED CARD OF 'fastilaw08.ChainEqual'. -/
def chainEqualCard : Claim7 := { stood := { row := chainEqualRow, standIns := [], harness := (true, "590fb5b68781ebc04ddff26f7eb5cdf1cbb403a92fcfbe617a5e6b55f85a9c97"), looks := true }, kinds := [], alts := [], laidByText := true, laidKinds := [.data, .data], laidTests := true, laidLooks := .later }
def ChainEqualCardSaid : Prop := Claim7.holds Tryd.pinned (.plain (OpenSpec.ofChange chainEqualSpec)) chainEqualCard

/-- THE TIED CARD OF 'fastilaw08.ChainChanged'. -/
def chainChangedCard : Claim7 := { stood := { row := chainChangedRow, standIns := [], harness := (true, "590fb5b68781ebc04ddff26f7eb5cdf1cbb403a92fcfbe617a5e6b55f85a9c97"), looks := true }, kinds := [], alts := [], laidByText := true, laidKinds := [.data, .data], laidTests := true, laidLooks := .later }
def ChainChangedCardSaid : Prop := Claim7.holds Tryd.pinned (.plain (OpenSpec.ofChange chainChangedSpec)) chainChangedCard

/-- THE TIED CARD OF 'fastilaw08.ChainParts'. -/
def chainPartsCard : Claim7 := { stood := { row := chainPartsRow, standIns := [], harness := (true, "590fb5b68781ebc04ddff26f7eb5cdf1cbb403a92fcfbe617a5e6b55f85a9c97"), looks := true }, kinds := [], alts := [], laidByText := true, laidKinds := [.data, .data], laidTests := true, laidLooks := .later }
def ChainPartsCardSaid : Prop := Claim7.holds Tryd.pinned (.plain (OpenSpec.ofChange chainPartsSpec)) chainPartsCard

/-- THE TIED CARD OF 'fastilaw56.OfficesSpec'. -/
def officesSpecCard : Claim7 := { stood := { row := officesSpecRow, standIns := [], harness := (true, "590fb5b68781ebc04ddff26f7eb5cdf1cbb403a92fcfbe617a5e6b55f85a9c97"), looks := true }, kinds := [], alts := [], laidByText := true, laidKinds := [.data, .data], laidTests := true, laidLooks := .later }
def OfficesSpecCardSaid : Prop := Claim7.holds Tryd.pinned (.plain (OpenSpec.ofChange officesSpecSpec)) officesSpecCard

/-- THE TIED CARD OF 'fastilaw56.OfficesFindSpec'. -/
def officesFindSpecCard : Claim7 := { stood := { row := officesFindSpecRow, standIns := [], harness := (true, "590fb5b68781ebc04ddff26f7eb5cdf1cbb403a92fcfbe617a5e6b55f85a9c97"), looks := true }, kinds := [], alts := [], laidByText := true, laidKinds := [.data, .data], laidTests := true, laidLooks := .later }
def OfficesFindSpecCardSaid : Prop := Claim7.holds Tryd.pinned (.plain (OpenSpec.ofChange officesFindSpecSpec)) officesFindSpecCard

/-- THE TIED CARD OF 'fastilaw56.OfficesHonest'. -/
def officesHonestCard : Claim7 := { stood := { row := officesHonestRow, standIns := [], harness := (true, "590fb5b68781ebc04ddff26f7eb5cdf1cbb403a92fcfbe617a5e6b55f85a9c97"), looks := true }, kinds := [], alts := [], laidByText := true, laidKinds := [.data, .data], laidTests := true, laidLooks := .later }
def OfficesHonestCardSaid : Prop := Claim7.holds Tryd.pinned (.plain (OpenSpec.ofChange officesHonestSpec)) officesHonestCard

/-- THE TIED CARD OF 'fastilaw56.OfficesPairs'. -/
def officesPairsCard : Claim7 := { stood := { row := officesPairsRow, standIns := [], harness := (true, "590fb5b68781ebc04ddff26f7eb5cdf1cbb403a92fcfbe617a5e6b55f85a9c97"), looks := true }, kinds := [], alts := [], laidByText := true, laidKinds := [.data, .data], laidTests := true, laidLooks := .later }
def OfficesPairsCardSaid : Prop := Claim7.holds Tryd.pinned (.plain (OpenSpec.ofChange officesPairsSpec)) officesPairsCard

/-- THE TIED CARD OF 'fastilaw56.OfficesFaces'. -/
def officesFacesCard : Claim7 := { stood := { row := officesFacesRow, standIns := [], harness := (true, "590fb5b68781ebc04ddff26f7eb5cdf1cbb403a92fcfbe617a5e6b55f85a9c97"), looks := true }, kinds := [], alts := [], laidByText := true, laidKinds := [.data, .data], laidTests := true, laidLooks := .later }
def OfficesFacesCardSaid : Prop := Claim7.holds Tryd.pinned (.plain (OpenSpec.ofChange officesFacesSpec)) officesFacesCard

/-- THE SECOND FORM's CARD OF 'fastilaw08.ChainAddSpec'. -/
def chainAddSpecUptoCard : Claim7 := { stood := { row := chainAddSpecUptoRow, standIns := [], harness := (true, "590fb5b68781ebc04ddff26f7eb5cdf1cbb403a92fcfbe617a5e6b55f85a9c97"), looks := true }, kinds := [], alts := [], laidByText := true, laidKinds := [.data, .data], laidTests := true, laidLooks := .later }
def ChainAddSpecUptoCardSaid : Prop := Claim7.holds Tryd.pinned (.plain (OpenSpec.upto chainAddSpecSpec)) chainAddSpecUptoCard

/-- THE SECOND FORM's CARD OF 'fastilaw08.ChainBuilt'. -/
def chainBuiltUptoCard : Claim7 := { stood := { row := chainBuiltUptoRow, standIns := [], harness := (true, "590fb5b68781ebc04ddff26f7eb5cdf1cbb403a92fcfbe617a5e6b55f85a9c97"), looks := true }, kinds := [], alts := [], laidByText := true, laidKinds := [.data, .data], laidTests := true, laidLooks := .later }
def ChainBuiltUptoCardSaid : Prop := Claim7.holds Tryd.pinned (.plain (OpenSpec.upto chainBuiltSpec)) chainBuiltUptoCard

/-- THE SECOND FORM's CARD OF 'fastilaw08.ChainEqual'. -/
def chainEqualUptoCard : Claim7 := { stood := { row := chainEqualUptoRow, standIns := [], harness := (true, "590fb5b68781ebc04ddff26f7eb5cdf1cbb403a92fcfbe617a5e6b55f85a9c97"), looks := true }, kinds := [], alts := [], laidByText := true, laidKinds := [.data, .data], laidTests := true, laidLooks := .later }
def ChainEqualUptoCardSaid : Prop := Claim7.holds Tryd.pinned (.plain (OpenSpec.upto chainEqualSpec)) chainEqualUptoCard

/-- THE SECOND FORM's CARD OF 'fastilaw08.ChainChanged'. -/
def chainChangedUptoCard : Claim7 := { stood := { row := chainChangedUptoRow, standIns := [], harness := (true, "590fb5b68781ebc04ddff26f7eb5cdf1cbb403a92fcfbe617a5e6b55f85a9c97"), looks := true }, kinds := [], alts := [], laidByText := true, laidKinds := [.data, .data], laidTests := true, laidLooks := .later }
def ChainChangedUptoCardSaid : Prop := Claim7.holds Tryd.pinned (.plain (OpenSpec.upto chainChangedSpec)) chainChangedUptoCard

/-- THE SECOND FORM's CARD OF 'fastilaw08.ChainParts'. -/
def chainPartsUptoCard : Claim7 := { stood := { row := chainPartsUptoRow, standIns := [], harness := (true, "590fb5b68781ebc04ddff26f7eb5cdf1cbb403a92fcfbe617a5e6b55f85a9c97"), looks := true }, kinds := [], alts := [], laidByText := true, laidKinds := [.data, .data], laidTests := true, laidLooks := .later }
def ChainPartsUptoCardSaid : Prop := Claim7.holds Tryd.pinned (.plain (OpenSpec.upto chainPartsSpec)) chainPartsUptoCard

/-- THE SECOND FORM's CARD OF 'fastilaw56.OfficesSpec'. -/
def officesSpecUptoCard : Claim7 := { stood := { row := officesSpecUptoRow, standIns := [], harness := (true, "590fb5b68781ebc04ddff26f7eb5cdf1cbb403a92fcfbe617a5e6b55f85a9c97"), looks := true }, kinds := [], alts := [], laidByText := true, laidKinds := [.data, .data], laidTests := true, laidLooks := .later }
def OfficesSpecUptoCardSaid : Prop := Claim7.holds Tryd.pinned (.plain (OpenSpec.upto officesSpecSpec)) officesSpecUptoCard

/-- THE SECOND FORM's CARD OF 'fastilaw56.OfficesFindSpec'. -/
def officesFindSpecUptoCard : Claim7 := { stood := { row := officesFindSpecUptoRow, standIns := [], harness := (true, "590fb5b68781ebc04ddff26f7eb5cdf1cbb403a92fcfbe617a5e6b55f85a9c97"), looks := true }, kinds := [], alts := [], laidByText := true, laidKinds := [.data, .data], laidTests := true, laidLooks := .later }
def OfficesFindSpecUptoCardSaid : Prop := Claim7.holds Tryd.pinned (.plain (OpenSpec.upto officesFindSpecSpec)) officesFindSpecUptoCard

/-- THE SECOND FORM's CARD OF 'fastilaw56.OfficesHonest'. -/
def officesHonestUptoCard : Claim7 := { stood := { row := officesHonestUptoRow, standIns := [], harness := (true, "590fb5b68781ebc04ddff26f7eb5cdf1cbb403a92fcfbe617a5e6b55f85a9c97"), looks := true }, kinds := [], alts := [], laidByText := true, laidKinds := [.data, .data], laidTests := true, laidLooks := .later }
def OfficesHonestUptoCardSaid : Prop := Claim7.holds Tryd.pinned (.plain (OpenSpec.upto officesHonestSpec)) officesHonestUptoCard

/-- THE SECOND FORM's CARD OF 'fastilaw56.OfficesPairs'. -/
def officesPairsUptoCard : Claim7 := { stood := { row := officesPairsUptoRow, standIns := [], harness := (true, "590fb5b68781ebc04ddff26f7eb5cdf1cbb403a92fcfbe617a5e6b55f85a9c97"), looks := true }, kinds := [], alts := [], laidByText := true, laidKinds := [.data, .data], laidTests := true, laidLooks := .later }
def OfficesPairsUptoCardSaid : Prop := Claim7.holds Tryd.pinned (.plain (OpenSpec.upto officesPairsSpec)) officesPairsUptoCard

/-- THE SECOND FORM's CARD OF 'fastilaw56.OfficesFaces'. -/
def officesFacesUptoCard : Claim7 := { stood := { row := officesFacesUptoRow, standIns := [], harness := (true, "590fb5b68781ebc04ddff26f7eb5cdf1cbb403a92fcfbe617a5e6b55f85a9c97"), looks := true }, kinds := [], alts := [], laidByText := true, laidKinds := [.data, .data], laidTests := true, laidLooks := .later }
def OfficesFacesUptoCardSaid : Prop := Claim7.holds Tryd.pinned (.plain (OpenSpec.upto officesFacesSpec)) officesFacesUptoCard
end Rows
end Go.Proofs.YthokpfegfnpmhaaDoor
