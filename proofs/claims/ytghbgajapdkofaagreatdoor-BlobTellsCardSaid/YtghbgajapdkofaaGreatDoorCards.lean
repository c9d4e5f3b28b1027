/-
  DERIVED. GIVEN WITH THE SEED: THE CARDS: each row of YtghbgajapdkofaaGreatDoorRows.lean that lists a variable, with what it lists TIED to the program's text (the seventh form; the later family's looks); each row that meets fmt, with fmt's text TOLD by the authors' own Lean function (tested against real Go, not proved from fmt's source: count such statements apart). THE CARD IS WHAT COUNTS. Prove the row's statement (the work); the ties are given (YtghbgajapdkofaaGreatDoorTie.lean); close each card by the builder's one call (the guide's Derived/Test/ToyasCard.lean, 'card_holds'). Laid BY PROGRAM, IN A SANDBOX (cutbox-door.mjs). By AI agents, Wed Nov 11 2026. No macro, syntax, notation, axiom, sorry.
-/
import Derived.Test.YtghbgajapdkofaaGreatDoorRows
import GoSem.ClaimSeven
namespace Go.Proofs.YtghbgajapdkofaaGreatDoor
namespace Rows

/-- THE TIED CARD OF 'honeycomblaw11.BlobTells'. -/
def blobTellsCard : Claim7 := { stood := { row := blobTellsRow, standIns := [], harness := (true, "7c9fa5121498af9e6d9592f3c155ef17358f322c3fe6d4a8ce21ec9916c4ee3a"), looks := false }, kinds := [], alts := [], laidByText := true, laidKinds := [.data, .pinned], laidTests := true, laidLooks := .later }
def BlobTellsCardSaid : Prop := Claim7.holds Tryz.pinned (.plain (OpenSpec.ofChange blobTellsSpec)) blobTellsCard

/-- THE SECOND FORM's CARD OF 'honeycomblaw11.BlobTells'. -/
def blobTellsUptoCard : Claim7 := { stood := { row := blobTellsUptoRow, standIns := [], harness := (true, "7c9fa5121498af9e6d9592f3c155ef17358f322c3fe6d4a8ce21ec9916c4ee3a"), looks := false }, kinds := [], alts := [], laidByText := true, laidKinds := [.data, .pinned], laidTests := true, laidLooks := .later }
def BlobTellsUptoCardSaid : Prop := Claim7.holds Tryz.pinned (.plain (OpenSpec.upto blobTellsSpec)) blobTellsUptoCard
end Rows
end Go.Proofs.YtghbgajapdkofaaGreatDoor
