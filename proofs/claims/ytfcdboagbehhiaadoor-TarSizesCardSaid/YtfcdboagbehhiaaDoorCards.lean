/-
  DERIVED. GIVEN WITH THE SEED: THE CARDS: each row of YtfcdboagbehhiaaDoorRows.lean that lists a variable, with what it lists TIED to the program's text (the seventh form; the later family's looks); each row that meets fmt, with fmt's text TOLD by the authors' own Lean function (tested against real Go, not proved from fmt's source: count such statements apart). THE CARD IS WHAT COUNTS. Prove the row's statement (the work); the ties are given (YtfcdboagbehhiaaDoorTie.lean); close each card by the builder's one call (the guide's Derived/Test/ToyasCard.lean, 'card_holds'). Laid BY PROGRAM, IN A SANDBOX (cutbox-door.mjs). By AI agents, Wed Nov 11 2026. No macro, syntax, notation, axiom, sorry.
-/
import Derived.Test.YtfcdboagbehhiaaDoorRows
import GoSem.ClaimSeven
namespace Go.Proofs.YtfcdboagbehhiaaDoor
namespace Rows

/-- THE TIED CARD OF 'hogsheadlaw13.TarRecords'. -/
def tarRecordsCard : Claim7 := { stood := { row := tarRecordsRow, standIns := [], harness := (true, "7e85dfb2c6038757a545b198298c544e8508fcec15847b26c6d905fde1cee591"), looks := false }, kinds := [], alts := [], laidByText := true, laidKinds := [.data, .data, .data, .data, .pinned], laidTests := true, laidLooks := .later }
def TarRecordsCardSaid : Prop := Claim7.holds Tryd.pinned (.plain (OpenSpec.ofChange tarRecordsSpec)) tarRecordsCard

/-- THE TIED CARD OF 'hogsheadlaw13.TarSizes'. -/
def tarSizesCard : Claim7 := { stood := { row := tarSizesRow, standIns := [], harness := (true, "7e85dfb2c6038757a545b198298c544e8508fcec15847b26c6d905fde1cee591"), looks := false }, kinds := [], alts := [], laidByText := true, laidKinds := [.data, .data, .data, .data, .pinned], laidTests := true, laidLooks := .later }
def TarSizesCardSaid : Prop := Claim7.holds Tryd.pinned (.plain (OpenSpec.ofChange tarSizesSpec)) tarSizesCard

/-- THE TIED CARD OF 'hogsheadlaw13.TarWhole'. -/
def tarWholeCard : Claim7 := { stood := { row := tarWholeRow, standIns := [], harness := (true, "7e85dfb2c6038757a545b198298c544e8508fcec15847b26c6d905fde1cee591"), looks := false }, kinds := [], alts := [], laidByText := true, laidKinds := [.data, .data, .data, .data, .pinned], laidTests := true, laidLooks := .later }
def TarWholeCardSaid : Prop := Claim7.holds Tryd.pinned (.plain (OpenSpec.ofChange tarWholeSpec)) tarWholeCard

/-- THE SECOND FORM's CARD OF 'hogsheadlaw13.TarRecords'. -/
def tarRecordsUptoCard : Claim7 := { stood := { row := tarRecordsUptoRow, standIns := [], harness := (true, "7e85dfb2c6038757a545b198298c544e8508fcec15847b26c6d905fde1cee591"), looks := false }, kinds := [], alts := [], laidByText := true, laidKinds := [.data, .data, .data, .data, .pinned], laidTests := true, laidLooks := .later }
def TarRecordsUptoCardSaid : Prop := Claim7.holds Tryd.pinned (.plain (OpenSpec.upto tarRecordsSpec)) tarRecordsUptoCard

/-- THE SECOND FORM's CARD OF 'hogsheadlaw13.TarSizes'. -/
def tarSizesUptoCard : Claim7 := { stood := { row := tarSizesUptoRow, standIns := [], harness := (true, "7e85dfb2c6038757a545b198298c544e8508fcec15847b26c6d905fde1cee591"), looks := false }, kinds := [], alts := [], laidByText := true, laidKinds := [.data, .data, .data, .data, .pinned], laidTests := true, laidLooks := .later }
def TarSizesUptoCardSaid : Prop := Claim7.holds Tryd.pinned (.plain (OpenSpec.upto tarSizesSpec)) tarSizesUptoCard

/-- THE SECOND FORM's CARD OF 'hogsheadlaw13.TarWhole'. -/
def tarWholeUptoCard : Claim7 := { stood := { row := tarWholeUptoRow, standIns := [], harness := (true, "7e85dfb2c6038757a545b198298c544e8508fcec15847b26c6d905fde1cee591"), looks := false }, kinds := [], alts := [], laidByText := true, laidKinds := [.data, .data, .data, .data, .pinned], laidTests := true, laidLooks := .later }
def TarWholeUptoCardSaid : Prop := Claim7.holds Tryd.pinned (.plain (OpenSpec.upto tarWholeSpec)) tarWholeUptoCard
end Rows
end Go.Proofs.YtfcdboagbehhiaaDoor
