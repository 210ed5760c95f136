/-
  DERIVED. GIVEN WITH THE SEED: THE CARDS: each row of YtpibjjhfckopaaaDoorRows.lean that lists a variable, with what it lists TIED to the program's text (the seventh form; the later family's looks); each row that meets fmt, with fmt's text TOLD by the authors' own Lean function (tested against real Go, not proved from fmt's source: count such statements apart). THE CARD IS WHAT COUNTS. Prove the row's statement (the work); the ties are given (YtpibjjhfckopaaaDoorTie.lean); close each card by the builder's one call (the guide's Derived/Test/ToyasCard.lean, 'card_holds'). Laid BY PROGRAM, IN A SANDBOX (cutbox-door.mjs). By AI agents, Wed Nov 11 2026. No macro, syntax, notation, axiom, sorry.
-/
import Derived.Test.YtpibjjhfckopaaaDoorRows
import GoSem.ClaimSeven
namespace Go.Proofs.YtpibjjhfckopaaaDoor
namespace Rows

/-- THE TIED CARD OF 'hogsheadlaw23.BlobsScript'. -/
def blobsScriptCard : Claim7 := { stood := { row := blobsScriptRow, standIns := [], harness := (true, "23979975352dd3be00b0b3a3dd3fd99fd279bd48a48c23cbe9b04b04b8e7d5fc"), looks := false }, kinds := [], alts := [], laidByText := true, laidKinds := [.data, .data, .data], laidTests := true, laidLooks := .later }
def BlobsScriptCardSaid : Prop := Claim7.holds Tryd.pinned (.plain (OpenSpec.ofChange blobsScriptSpec)) blobsScriptCard

/-- THE TIED CARD OF 'hogsheadlaw23.BlobsOrder'. -/
def blobsOrderCard : Claim7 := { stood := { row := blobsOrderRow, standIns := [], harness := (true, "23979975352dd3be00b0b3a3dd3fd99fd279bd48a48c23cbe9b04b04b8e7d5fc"), looks := false }, kinds := [], alts := [], laidByText := true, laidKinds := [.data, .data, .data], laidTests := true, laidLooks := .later }
def BlobsOrderCardSaid : Prop := Claim7.holds Tryd.pinned (.plain (OpenSpec.ofChange blobsOrderSpec)) blobsOrderCard

/-- THE SECOND FORM's CARD OF 'hogsheadlaw23.BlobsScript'. -/
def blobsScriptUptoCard : Claim7 := { stood := { row := blobsScriptUptoRow, standIns := [], harness := (true, "23979975352dd3be00b0b3a3dd3fd99fd279bd48a48c23cbe9b04b04b8e7d5fc"), looks := false }, kinds := [], alts := [], laidByText := true, laidKinds := [.data, .data, .data], laidTests := true, laidLooks := .later }
def BlobsScriptUptoCardSaid : Prop := Claim7.holds Tryd.pinned (.plain (OpenSpec.upto blobsScriptSpec)) blobsScriptUptoCard

/-- THE SECOND FORM's CARD OF 'hogsheadlaw23.BlobsOrder'. -/
def blobsOrderUptoCard : Claim7 := { stood := { row := blobsOrderUptoRow, standIns := [], harness := (true, "23979975352dd3be00b0b3a3dd3fd99fd279bd48a48c23cbe9b04b04b8e7d5fc"), looks := false }, kinds := [], alts := [], laidByText := true, laidKinds := [.data, .data, .data], laidTests := true, laidLooks := .later }
def BlobsOrderUptoCardSaid : Prop := Claim7.holds Tryd.pinned (.plain (OpenSpec.upto blobsOrderSpec)) blobsOrderUptoCard
end Rows
end Go.Proofs.YtpibjjhfckopaaaDoor
