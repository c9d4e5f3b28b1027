/-
  DERIVED. GIVEN WITH THE SEED: THE CARDS: each row of YtgafmbdledpblaaDoorRows.lean that lists a variable, with what it lists TIED to the program's text (the seventh form; the later family's looks); each row that meets fmt, with fmt's text TOLD by the authors' own Lean function (tested against real Go, not proved from fmt's source: count such statements apart). THE CARD IS WHAT COUNTS. Prove the row's statement (the work); the ties are given (YtgafmbdledpblaaDoorTie.lean); close each card by the builder's one call (the guide's Derived/Test/ToyasCard.lean, 'card_holds'). Laid BY PROGRAM, IN A SANDBOX (cutbox-door.mjs). By AI agents, Wed Nov 11 2026. No macro, syntax, notation, axiom, sorry.
-/
import Derived.Test.YtgafmbdledpblaaDoorRows
import GoSem.ClaimSeven
namespace Go.Proofs.YtgafmbdledpblaaDoor
namespace Rows

/-- THE TIED CARD OF 'honeycomblaw9.SpacePlays'. -/
def spacePlaysCard : Claim7 := { stood := { row := spacePlaysRow, standIns := [], harness := (true, "f966270bf380b566cafd400ed9ab6421b17f4d424a009a07714b4311ed261806"), looks := false }, kinds := [], alts := [], laidByText := true, laidKinds := [.data, .pinned], laidTests := true, laidLooks := .later }
def SpacePlaysCardSaid : Prop := Claim7.holds Tryd.pinned (.plain (OpenSpec.ofChange spacePlaysSpec)) spacePlaysCard

/-- THE TIED CARD OF 'honeycomblaw9.SpaceAll'. -/
def spaceAllCard : Claim7 := { stood := { row := spaceAllRow, standIns := [], harness := (true, "f966270bf380b566cafd400ed9ab6421b17f4d424a009a07714b4311ed261806"), looks := false }, kinds := [], alts := [], laidByText := true, laidKinds := [.data, .pinned], laidTests := true, laidLooks := .later }
def SpaceAllCardSaid : Prop := Claim7.holds Tryd.pinned (.plain (OpenSpec.ofChange spaceAllSpec)) spaceAllCard

/-- THE TIED CARD OF 'honeycomblaw9.SpaceLeast'. -/
def spaceLeastCard : Claim7 := { stood := { row := spaceLeastRow, standIns := [], harness := (true, "f966270bf380b566cafd400ed9ab6421b17f4d424a009a07714b4311ed261806"), looks := false }, kinds := [], alts := [], laidByText := true, laidKinds := [.data, .pinned], laidTests := true, laidLooks := .later }
def SpaceLeastCardSaid : Prop := Claim7.holds Tryd.pinned (.plain (OpenSpec.ofChange spaceLeastSpec)) spaceLeastCard

/-- THE TIED CARD OF 'honeycomblaw9.SpaceCounts'. -/
def spaceCountsCard : Claim7 := { stood := { row := spaceCountsRow, standIns := [], harness := (true, "f966270bf380b566cafd400ed9ab6421b17f4d424a009a07714b4311ed261806"), looks := false }, kinds := [], alts := [], laidByText := true, laidKinds := [.data, .pinned], laidTests := true, laidLooks := .later }
def SpaceCountsCardSaid : Prop := Claim7.holds Tryd.pinned (.plain (OpenSpec.ofChange spaceCountsSpec)) spaceCountsCard

/-- THE TIED CARD OF 'honeycomblaw9.SpaceBack'. -/
def spaceBackCard : Claim7 := { stood := { row := spaceBackRow, standIns := [], harness := (true, "f966270bf380b566cafd400ed9ab6421b17f4d424a009a07714b4311ed261806"), looks := false }, kinds := [], alts := [], laidByText := true, laidKinds := [.data, .pinned], laidTests := true, laidLooks := .later }
def SpaceBackCardSaid : Prop := Claim7.holds Tryd.pinned (.plain (OpenSpec.ofChange spaceBackSpec)) spaceBackCard

/-- THE TIED CARD OF 'honeycomblaw9.SpaceEdges'. -/
def spaceEdgesCard : Claim7 := { stood := { row := spaceEdgesRow, standIns := [], harness := (true, "f966270bf380b566cafd400ed9ab6421b17f4d424a009a07714b4311ed261806"), looks := false }, kinds := [], alts := [], laidByText := true, laidKinds := [.data, .pinned], laidTests := true, laidLooks := .later }
def SpaceEdgesCardSaid : Prop := Claim7.holds Tryd.pinned (.plain (OpenSpec.ofChange spaceEdgesSpec)) spaceEdgesCard

/-- THE SECOND FORM's CARD OF 'honeycomblaw9.SpacePlays'. -/
def spacePlaysUptoCard : Claim7 := { stood := { row := spacePlaysUptoRow, standIns := [], harness := (true, "f966270bf380b566cafd400ed9ab6421b17f4d424a009a07714b4311ed261806"), looks := false }, kinds := [], alts := [], laidByText := true, laidKinds := [.data, .pinned], laidTests := true, laidLooks := .later }
def SpacePlaysUptoCardSaid : Prop := Claim7.holds Tryd.pinned (.plain (OpenSpec.upto spacePlaysSpec)) spacePlaysUptoCard

/-- THE SECOND FORM's CARD OF 'honeycomblaw9.SpaceAll'. -/
def spaceAllUptoCard : Claim7 := { stood := { row := spaceAllUptoRow, standIns := [], harness := (true, "f966270bf380b566cafd400ed9ab6421b17f4d424a009a07714b4311ed261806"), looks := false }, kinds := [], alts := [], laidByText := true, laidKinds := [.data, .pinned], laidTests := true, laidLooks := .later }
def SpaceAllUptoCardSaid : Prop := Claim7.holds Tryd.pinned (.plain (OpenSpec.upto spaceAllSpec)) spaceAllUptoCard

/-- THE SECOND FORM's CARD OF 'honeycomblaw9.SpaceLeast'. -/
def spaceLeastUptoCard : Claim7 := { stood := { row := spaceLeastUptoRow, standIns := [], harness := (true, "f966270bf380b566cafd400ed9ab6421b17f4d424a009a07714b4311ed261806"), looks := false }, kinds := [], alts := [], laidByText := true, laidKinds := [.data, .pinned], laidTests := true, laidLooks := .later }
def SpaceLeastUptoCardSaid : Prop := Claim7.holds Tryd.pinned (.plain (OpenSpec.upto spaceLeastSpec)) spaceLeastUptoCard

/-- THE SECOND FORM's CARD OF 'honeycomblaw9.SpaceCounts'. -/
def spaceCountsUptoCard : Claim7 := { stood := { row := spaceCountsUptoRow, standIns := [], harness := (true, "f966270bf380b566cafd400ed9ab6421b17f4d424a009a07714b4311ed261806"), looks := false }, kinds := [], alts := [], laidByText := true, laidKinds := [.data, .pinned], laidTests := true, laidLooks := .later }
def SpaceCountsUptoCardSaid : Prop := Claim7.holds Tryd.pinned (.plain (OpenSpec.upto spaceCountsSpec)) spaceCountsUptoCard

/-- THE SECOND FORM's CARD OF 'honeycomblaw9.SpaceBack'. -/
def spaceBackUptoCard : Claim7 := { stood := { row := spaceBackUptoRow, standIns := [], harness := (true, "f966270bf380b566cafd400ed9ab6421b17f4d424a009a07714b4311ed261806"), looks := false }, kinds := [], alts := [], laidByText := true, laidKinds := [.data, .pinned], laidTests := true, laidLooks := .later }
def SpaceBackUptoCardSaid : Prop := Claim7.holds Tryd.pinned (.plain (OpenSpec.upto spaceBackSpec)) spaceBackUptoCard

/-- THE SECOND FORM's CARD OF 'honeycomblaw9.SpaceEdges'. -/
def spaceEdgesUptoCard : Claim7 := { stood := { row := spaceEdgesUptoRow, standIns := [], harness := (true, "f966270bf380b566cafd400ed9ab6421b17f4d424a009a07714b4311ed261806"), looks := false }, kinds := [], alts := [], laidByText := true, laidKinds := [.data, .pinned], laidTests := true, laidLooks := .later }
def SpaceEdgesUptoCardSaid : Prop := Claim7.holds Tryd.pinned (.plain (OpenSpec.upto spaceEdgesSpec)) spaceEdgesUptoCard
end Rows
end Go.Proofs.YtgafmbdledpblaaDoor
