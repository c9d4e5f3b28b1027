/-
  DERIVED. GIVEN WITH THE SEED: THE CARDS: each row of YtghbgajapdkofaaDoorRows.lean that lists a variable, with what it lists TIED to the program's text (the seventh form; the later family's looks); each row that meets fmt, with fmt's text TOLD by the authors' own Lean function (tested against real Go, not proved from fmt's source: count such statements apart). THE CARD IS WHAT COUNTS. Prove the row's statement (the work); the ties are given (YtghbgajapdkofaaDoorTie.lean); close each card by the builder's one call (the guide's Derived/Test/ToyasCard.lean, 'card_holds'). Laid BY PROGRAM, IN A SANDBOX (cutbox-door.mjs). By AI agents, Wed Nov 11 2026. No macro, syntax, notation, axiom, sorry.
-/
import Derived.Test.YtghbgajapdkofaaDoorRows
import GoSem.ClaimSeven
namespace Go.Proofs.YtghbgajapdkofaaDoor
namespace Rows

/-- THE TIED CARD OF 'honeycomblaw11.BlobSizes'. -/
def blobSizesCard : Claim7 := { stood := { row := blobSizesRow, standIns := [], harness := (true, "f803c2a212f45672bfe3d08f53e8e196e4e6c22f56294b4531685fe1d2ff19d3"), looks := false }, kinds := [], alts := [], laidByText := true, laidKinds := [.data, .pinned], laidTests := true, laidLooks := .later }
def BlobSizesCardSaid : Prop := Claim7.holds Tryd.pinned (.plain (OpenSpec.ofChange blobSizesSpec)) blobSizesCard

/-- THE TIED CARD OF 'honeycomblaw11.BlobTurned'. -/
def blobTurnedCard : Claim7 := { stood := { row := blobTurnedRow, standIns := [], harness := (true, "f803c2a212f45672bfe3d08f53e8e196e4e6c22f56294b4531685fe1d2ff19d3"), looks := false }, kinds := [], alts := [], laidByText := true, laidKinds := [.data, .pinned], laidTests := true, laidLooks := .later }
def BlobTurnedCardSaid : Prop := Claim7.holds Tryd.pinned (.plain (OpenSpec.ofChange blobTurnedSpec)) blobTurnedCard

/-- THE TIED CARD OF 'honeycomblaw11.BlobOthers'. -/
def blobOthersCard : Claim7 := { stood := { row := blobOthersRow, standIns := [], harness := (true, "f803c2a212f45672bfe3d08f53e8e196e4e6c22f56294b4531685fe1d2ff19d3"), looks := false }, kinds := [], alts := [], laidByText := true, laidKinds := [.data, .pinned], laidTests := true, laidLooks := .later }
def BlobOthersCardSaid : Prop := Claim7.holds Tryd.pinned (.plain (OpenSpec.ofChange blobOthersSpec)) blobOthersCard

/-- THE SECOND FORM's CARD OF 'honeycomblaw11.BlobSizes'. -/
def blobSizesUptoCard : Claim7 := { stood := { row := blobSizesUptoRow, standIns := [], harness := (true, "f803c2a212f45672bfe3d08f53e8e196e4e6c22f56294b4531685fe1d2ff19d3"), looks := false }, kinds := [], alts := [], laidByText := true, laidKinds := [.data, .pinned], laidTests := true, laidLooks := .later }
def BlobSizesUptoCardSaid : Prop := Claim7.holds Tryd.pinned (.plain (OpenSpec.upto blobSizesSpec)) blobSizesUptoCard

/-- THE SECOND FORM's CARD OF 'honeycomblaw11.BlobTurned'. -/
def blobTurnedUptoCard : Claim7 := { stood := { row := blobTurnedUptoRow, standIns := [], harness := (true, "f803c2a212f45672bfe3d08f53e8e196e4e6c22f56294b4531685fe1d2ff19d3"), looks := false }, kinds := [], alts := [], laidByText := true, laidKinds := [.data, .pinned], laidTests := true, laidLooks := .later }
def BlobTurnedUptoCardSaid : Prop := Claim7.holds Tryd.pinned (.plain (OpenSpec.upto blobTurnedSpec)) blobTurnedUptoCard

/-- THE SECOND FORM's CARD OF 'honeycomblaw11.BlobOthers'. -/
def blobOthersUptoCard : Claim7 := { stood := { row := blobOthersUptoRow, standIns := [], harness := (true, "f803c2a212f45672bfe3d08f53e8e196e4e6c22f56294b4531685fe1d2ff19d3"), looks := false }, kinds := [], alts := [], laidByText := true, laidKinds := [.data, .pinned], laidTests := true, laidLooks := .later }
def BlobOthersUptoCardSaid : Prop := Claim7.holds Tryd.pinned (.plain (OpenSpec.upto blobOthersSpec)) blobOthersUptoCard
end Rows
end Go.Proofs.YtghbgajapdkofaaDoor
