/-
  DERIVED. GIVEN WITH THE SEED: THE CARDS: each row of YthekmakdbkdmdaaDoorRows.lean that lists a variable, with what it lists TIED to the program's text (the seventh form; the later family's looks); each row that meets fmt, with fmt's text TOLD by the authors' own Lean function (tested against real Go, not proved from fmt's source: count such statements apart). THE CARD IS WHAT COUNTS. Prove the row's statement (the work); the ties are given (YthekmakdbkdmdaaDoorTie.lean); close each card by the builder's one call (the guide's Derived/Test/ToyasCard.lean, 'card_holds'). Laid BY PROGRAM, IN A SANDBOX (cutbox-door.mjs). By AI agents, Wed Nov 11 2026. No macro, syntax, notation, axiom, sorry.
-/
import Derived.Test.YthekmakdbkdmdaaDoorRows
import GoSem.ClaimSeven
namespace Go.Proofs.YthekmakdbkdmdaaDoor
namespace Rows

/-- THE TIED CARD OF 'honeycomblaw10.DirTurns'. -/
def dirTurnsCard : Claim7 := { stood := { row := dirTurnsRow, standIns := [], harness := (true, "deea2c34893e338c27784c01ec995f39bfd675d2f4c957a244a49ab8c5f7f87f"), looks := false }, kinds := [], alts := [], laidByText := true, laidKinds := [.data, .pinned], laidTests := true, laidLooks := .later }
def DirTurnsCardSaid : Prop := Claim7.holds Tryd.pinned (.plain (OpenSpec.ofChange dirTurnsSpec)) dirTurnsCard

/-- THE TIED CARD OF 'honeycomblaw10.DirSets'. -/
def dirSetsCard : Claim7 := { stood := { row := dirSetsRow, standIns := [], harness := (true, "deea2c34893e338c27784c01ec995f39bfd675d2f4c957a244a49ab8c5f7f87f"), looks := false }, kinds := [], alts := [], laidByText := true, laidKinds := [.data, .pinned], laidTests := true, laidLooks := .later }
def DirSetsCardSaid : Prop := Claim7.holds Tryd.pinned (.plain (OpenSpec.ofChange dirSetsSpec)) dirSetsCard

/-- THE TIED CARD OF 'honeycomblaw10.DirDoubles'. -/
def dirDoublesCard : Claim7 := { stood := { row := dirDoublesRow, standIns := [], harness := (true, "deea2c34893e338c27784c01ec995f39bfd675d2f4c957a244a49ab8c5f7f87f"), looks := false }, kinds := [], alts := [], laidByText := true, laidKinds := [.data, .pinned], laidTests := true, laidLooks := .later }
def DirDoublesCardSaid : Prop := Claim7.holds Tryd.pinned (.plain (OpenSpec.ofChange dirDoublesSpec)) dirDoublesCard

/-- THE TIED CARD OF 'honeycomblaw10.DirEdges'. -/
def dirEdgesCard : Claim7 := { stood := { row := dirEdgesRow, standIns := [], harness := (true, "deea2c34893e338c27784c01ec995f39bfd675d2f4c957a244a49ab8c5f7f87f"), looks := false }, kinds := [], alts := [], laidByText := true, laidKinds := [.data, .pinned], laidTests := true, laidLooks := .later }
def DirEdgesCardSaid : Prop := Claim7.holds Tryd.pinned (.plain (OpenSpec.ofChange dirEdgesSpec)) dirEdgesCard

/-- THE SECOND FORM's CARD OF 'honeycomblaw10.DirTurns'. -/
def dirTurnsUptoCard : Claim7 := { stood := { row := dirTurnsUptoRow, standIns := [], harness := (true, "deea2c34893e338c27784c01ec995f39bfd675d2f4c957a244a49ab8c5f7f87f"), looks := false }, kinds := [], alts := [], laidByText := true, laidKinds := [.data, .pinned], laidTests := true, laidLooks := .later }
def DirTurnsUptoCardSaid : Prop := Claim7.holds Tryd.pinned (.plain (OpenSpec.upto dirTurnsSpec)) dirTurnsUptoCard

/-- THE SECOND FORM's CARD OF 'honeycomblaw10.DirSets'. -/
def dirSetsUptoCard : Claim7 := { stood := { row := dirSetsUptoRow, standIns := [], harness := (true, "deea2c34893e338c27784c01ec995f39bfd675d2f4c957a244a49ab8c5f7f87f"), looks := false }, kinds := [], alts := [], laidByText := true, laidKinds := [.data, .pinned], laidTests := true, laidLooks := .later }
def DirSetsUptoCardSaid : Prop := Claim7.holds Tryd.pinned (.plain (OpenSpec.upto dirSetsSpec)) dirSetsUptoCard

/-- THE SECOND FORM's CARD OF 'honeycomblaw10.DirDoubles'. -/
def dirDoublesUptoCard : Claim7 := { stood := { row := dirDoublesUptoRow, standIns := [], harness := (true, "deea2c34893e338c27784c01ec995f39bfd675d2f4c957a244a49ab8c5f7f87f"), looks := false }, kinds := [], alts := [], laidByText := true, laidKinds := [.data, .pinned], laidTests := true, laidLooks := .later }
def DirDoublesUptoCardSaid : Prop := Claim7.holds Tryd.pinned (.plain (OpenSpec.upto dirDoublesSpec)) dirDoublesUptoCard

/-- THE SECOND FORM's CARD OF 'honeycomblaw10.DirEdges'. -/
def dirEdgesUptoCard : Claim7 := { stood := { row := dirEdgesUptoRow, standIns := [], harness := (true, "deea2c34893e338c27784c01ec995f39bfd675d2f4c957a244a49ab8c5f7f87f"), looks := false }, kinds := [], alts := [], laidByText := true, laidKinds := [.data, .pinned], laidTests := true, laidLooks := .later }
def DirEdgesUptoCardSaid : Prop := Claim7.holds Tryd.pinned (.plain (OpenSpec.upto dirEdgesSpec)) dirEdgesUptoCard
end Rows
end Go.Proofs.YthekmakdbkdmdaaDoor
