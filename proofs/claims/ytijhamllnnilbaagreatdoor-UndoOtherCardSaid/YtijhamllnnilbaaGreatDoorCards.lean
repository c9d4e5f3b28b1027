/-
  DERIVED. GIVEN WITH THE SEED: THE CARDS: each row of YtijhamllnnilbaaGreatDoorRows.lean that lists a variable, with what it lists TIED to the program's text (the seventh form; the later family's looks); each row that meets fmt, with fmt's text TOLD by the authors' own Lean function (tested against real Go, not proved from fmt's source: count such statements apart). THE CARD IS WHAT COUNTS. Prove the row's statement (the work); the ties are given (YtijhamllnnilbaaGreatDoorTie.lean); close each card by the builder's one call (the guide's Derived/Test/ToyasCard.lean, 'card_holds'). Laid BY PROGRAM, IN A SANDBOX (cutbox-door.mjs). By AI agents, Wed Nov 11 2026. No macro, syntax, notation, axiom, sorry.
-/
import Derived.Test.YtijhamllnnilbaaGreatDoorRows
import GoSem.ClaimSeven
namespace Go.Proofs.YtijhamllnnilbaaGreatDoor
namespace Rows

/-- THE TIED CARD OF 'honeycomblaw19.HashOrder'. -/
def hashOrderCard : Claim7 := { stood := { row := hashOrderRow, standIns := [], harness := (true, "25424c3afe21f5e5b56bdd4c1851000fb9fba54cccf9411e22085ba29a7bbcb5"), looks := false }, kinds := [], alts := [], laidByText := true, laidKinds := [.data, .listed, .data, .pinned], laidTests := true, laidLooks := .later }
def HashOrderCardSaid : Prop := Claim7.holds Tryz.pinned (.plain (OpenSpec.ofChange hashOrderSpec)) hashOrderCard

/-- THE TIED CARD OF 'honeycomblaw19.HashMany'. -/
def hashManyCard : Claim7 := { stood := { row := hashManyRow, standIns := [], harness := (true, "25424c3afe21f5e5b56bdd4c1851000fb9fba54cccf9411e22085ba29a7bbcb5"), looks := false }, kinds := [], alts := [], laidByText := true, laidKinds := [.data, .listed, .data, .pinned], laidTests := true, laidLooks := .later }
def HashManyCardSaid : Prop := Claim7.holds Tryz.pinned (.plain (OpenSpec.ofChange hashManySpec)) hashManyCard

/-- THE TIED CARD OF 'honeycomblaw19.HashReplaces'. -/
def hashReplacesCard : Claim7 := { stood := { row := hashReplacesRow, standIns := [], harness := (true, "25424c3afe21f5e5b56bdd4c1851000fb9fba54cccf9411e22085ba29a7bbcb5"), looks := false }, kinds := [], alts := [], laidByText := true, laidKinds := [.data, .listed, .data, .pinned], laidTests := true, laidLooks := .later }
def HashReplacesCardSaid : Prop := Claim7.holds Tryz.pinned (.plain (OpenSpec.ofChange hashReplacesSpec)) hashReplacesCard

/-- THE TIED CARD OF 'honeycomblaw19.HashOverflows'. -/
def hashOverflowsCard : Claim7 := { stood := { row := hashOverflowsRow, standIns := [], harness := (true, "25424c3afe21f5e5b56bdd4c1851000fb9fba54cccf9411e22085ba29a7bbcb5"), looks := false }, kinds := [], alts := [], laidByText := true, laidKinds := [.data, .listed, .data, .pinned], laidTests := true, laidLooks := .later }
def HashOverflowsCardSaid : Prop := Claim7.holds Tryz.pinned (.plain (OpenSpec.ofChange hashOverflowsSpec)) hashOverflowsCard

/-- THE TIED CARD OF 'honeycomblaw19.HashNone'. -/
def hashNoneCard : Claim7 := { stood := { row := hashNoneRow, standIns := [], harness := (true, "25424c3afe21f5e5b56bdd4c1851000fb9fba54cccf9411e22085ba29a7bbcb5"), looks := false }, kinds := [], alts := [], laidByText := true, laidKinds := [.data, .listed, .data, .pinned], laidTests := true, laidLooks := .later }
def HashNoneCardSaid : Prop := Claim7.holds Tryz.pinned (.plain (OpenSpec.ofChange hashNoneSpec)) hashNoneCard

/-- THE TIED CARD OF 'honeycomblaw19.HashShrinks'. -/
def hashShrinksCard : Claim7 := { stood := { row := hashShrinksRow, standIns := [], harness := (true, "25424c3afe21f5e5b56bdd4c1851000fb9fba54cccf9411e22085ba29a7bbcb5"), looks := false }, kinds := [], alts := [], laidByText := true, laidKinds := [.data, .listed, .data, .pinned], laidTests := true, laidLooks := .later }
def HashShrinksCardSaid : Prop := Claim7.holds Tryz.pinned (.plain (OpenSpec.ofChange hashShrinksSpec)) hashShrinksCard

/-- THE TIED CARD OF 'honeycomblaw19.HashStays'. -/
def hashStaysCard : Claim7 := { stood := { row := hashStaysRow, standIns := [], harness := (true, "25424c3afe21f5e5b56bdd4c1851000fb9fba54cccf9411e22085ba29a7bbcb5"), looks := false }, kinds := [], alts := [], laidByText := true, laidKinds := [.data, .listed, .data, .pinned], laidTests := true, laidLooks := .later }
def HashStaysCardSaid : Prop := Claim7.holds Tryz.pinned (.plain (OpenSpec.ofChange hashStaysSpec)) hashStaysCard

/-- THE TIED CARD OF 'honeycomblaw19.HashPlays'. -/
def hashPlaysCard : Claim7 := { stood := { row := hashPlaysRow, standIns := [], harness := (true, "25424c3afe21f5e5b56bdd4c1851000fb9fba54cccf9411e22085ba29a7bbcb5"), looks := false }, kinds := [], alts := [], laidByText := true, laidKinds := [.data, .listed, .data, .pinned], laidTests := true, laidLooks := .later }
def HashPlaysCardSaid : Prop := Claim7.holds Tryz.pinned (.plain (OpenSpec.ofChange hashPlaysSpec)) hashPlaysCard

/-- THE TIED CARD OF 'honeycomblaw21.UndoBack'. -/
def undoBackCard : Claim7 := { stood := { row := undoBackRow, standIns := [], harness := (true, "25424c3afe21f5e5b56bdd4c1851000fb9fba54cccf9411e22085ba29a7bbcb5"), looks := false }, kinds := [], alts := [], laidByText := true, laidKinds := [.data, .listed, .data, .pinned], laidTests := true, laidLooks := .later }
def UndoBackCardSaid : Prop := Claim7.holds Tryz.pinned (.plain (OpenSpec.ofChange undoBackSpec)) undoBackCard

/-- THE TIED CARD OF 'honeycomblaw21.UndoOther'. -/
def undoOtherCard : Claim7 := { stood := { row := undoOtherRow, standIns := [], harness := (true, "25424c3afe21f5e5b56bdd4c1851000fb9fba54cccf9411e22085ba29a7bbcb5"), looks := false }, kinds := [], alts := [], laidByText := true, laidKinds := [.data, .listed, .data, .pinned], laidTests := true, laidLooks := .later }
def UndoOtherCardSaid : Prop := Claim7.holds Tryz.pinned (.plain (OpenSpec.ofChange undoOtherSpec)) undoOtherCard

/-- THE SECOND FORM's CARD OF 'honeycomblaw19.HashOrder'. -/
def hashOrderUptoCard : Claim7 := { stood := { row := hashOrderUptoRow, standIns := [], harness := (true, "25424c3afe21f5e5b56bdd4c1851000fb9fba54cccf9411e22085ba29a7bbcb5"), looks := false }, kinds := [], alts := [], laidByText := true, laidKinds := [.data, .listed, .data, .pinned], laidTests := true, laidLooks := .later }
def HashOrderUptoCardSaid : Prop := Claim7.holds Tryz.pinned (.plain (OpenSpec.upto hashOrderSpec)) hashOrderUptoCard

/-- THE SECOND FORM's CARD OF 'honeycomblaw19.HashMany'. -/
def hashManyUptoCard : Claim7 := { stood := { row := hashManyUptoRow, standIns := [], harness := (true, "25424c3afe21f5e5b56bdd4c1851000fb9fba54cccf9411e22085ba29a7bbcb5"), looks := false }, kinds := [], alts := [], laidByText := true, laidKinds := [.data, .listed, .data, .pinned], laidTests := true, laidLooks := .later }
def HashManyUptoCardSaid : Prop := Claim7.holds Tryz.pinned (.plain (OpenSpec.upto hashManySpec)) hashManyUptoCard

/-- THE SECOND FORM's CARD OF 'honeycomblaw19.HashReplaces'. -/
def hashReplacesUptoCard : Claim7 := { stood := { row := hashReplacesUptoRow, standIns := [], harness := (true, "25424c3afe21f5e5b56bdd4c1851000fb9fba54cccf9411e22085ba29a7bbcb5"), looks := false }, kinds := [], alts := [], laidByText := true, laidKinds := [.data, .listed, .data, .pinned], laidTests := true, laidLooks := .later }
def HashReplacesUptoCardSaid : Prop := Claim7.holds Tryz.pinned (.plain (OpenSpec.upto hashReplacesSpec)) hashReplacesUptoCard

/-- THE SECOND FORM's CARD OF 'honeycomblaw19.HashOverflows'. -/
def hashOverflowsUptoCard : Claim7 := { stood := { row := hashOverflowsUptoRow, standIns := [], harness := (true, "25424c3afe21f5e5b56bdd4c1851000fb9fba54cccf9411e22085ba29a7bbcb5"), looks := false }, kinds := [], alts := [], laidByText := true, laidKinds := [.data, .listed, .data, .pinned], laidTests := true, laidLooks := .later }
def HashOverflowsUptoCardSaid : Prop := Claim7.holds Tryz.pinned (.plain (OpenSpec.upto hashOverflowsSpec)) hashOverflowsUptoCard

/-- THE SECOND FORM's CARD OF 'honeycomblaw19.HashNone'. -/
def hashNoneUptoCard : Claim7 := { stood := { row := hashNoneUptoRow, standIns := [], harness := (true, "25424c3afe21f5e5b56bdd4c1851000fb9fba54cccf9411e22085ba29a7bbcb5"), looks := false }, kinds := [], alts := [], laidByText := true, laidKinds := [.data, .listed, .data, .pinned], laidTests := true, laidLooks := .later }
def HashNoneUptoCardSaid : Prop := Claim7.holds Tryz.pinned (.plain (OpenSpec.upto hashNoneSpec)) hashNoneUptoCard

/-- THE SECOND FORM's CARD OF 'honeycomblaw19.HashShrinks'. -/
def hashShrinksUptoCard : Claim7 := { stood := { row := hashShrinksUptoRow, standIns := [], harness := (true, "25424c3afe21f5e5b56bdd4c1851000fb9fba54cccf9411e22085ba29a7bbcb5"), looks := false }, kinds := [], alts := [], laidByText := true, laidKinds := [.data, .listed, .data, .pinned], laidTests := true, laidLooks := .later }
def HashShrinksUptoCardSaid : Prop := Claim7.holds Tryz.pinned (.plain (OpenSpec.upto hashShrinksSpec)) hashShrinksUptoCard

/-- THE SECOND FORM's CARD OF 'honeycomblaw19.HashStays'. -/
def hashStaysUptoCard : Claim7 := { stood := { row := hashStaysUptoRow, standIns := [], harness := (true, "25424c3afe21f5e5b56bdd4c1851000fb9fba54cccf9411e22085ba29a7bbcb5"), looks := false }, kinds := [], alts := [], laidByText := true, laidKinds := [.data, .listed, .data, .pinned], laidTests := true, laidLooks := .later }
def HashStaysUptoCardSaid : Prop := Claim7.holds Tryz.pinned (.plain (OpenSpec.upto hashStaysSpec)) hashStaysUptoCard

/-- THE SECOND FORM's CARD OF 'honeycomblaw19.HashPlays'. -/
def hashPlaysUptoCard : Claim7 := { stood := { row := hashPlaysUptoRow, standIns := [], harness := (true, "25424c3afe21f5e5b56bdd4c1851000fb9fba54cccf9411e22085ba29a7bbcb5"), looks := false }, kinds := [], alts := [], laidByText := true, laidKinds := [.data, .listed, .data, .pinned], laidTests := true, laidLooks := .later }
def HashPlaysUptoCardSaid : Prop := Claim7.holds Tryz.pinned (.plain (OpenSpec.upto hashPlaysSpec)) hashPlaysUptoCard

/-- THE SECOND FORM's CARD OF 'honeycomblaw21.UndoBack'. -/
def undoBackUptoCard : Claim7 := { stood := { row := undoBackUptoRow, standIns := [], harness := (true, "25424c3afe21f5e5b56bdd4c1851000fb9fba54cccf9411e22085ba29a7bbcb5"), looks := false }, kinds := [], alts := [], laidByText := true, laidKinds := [.data, .listed, .data, .pinned], laidTests := true, laidLooks := .later }
def UndoBackUptoCardSaid : Prop := Claim7.holds Tryz.pinned (.plain (OpenSpec.upto undoBackSpec)) undoBackUptoCard

/-- THE SECOND FORM's CARD OF 'honeycomblaw21.UndoOther'. -/
def undoOtherUptoCard : Claim7 := { stood := { row := undoOtherUptoRow, standIns := [], harness := (true, "25424c3afe21f5e5b56bdd4c1851000fb9fba54cccf9411e22085ba29a7bbcb5"), looks := false }, kinds := [], alts := [], laidByText := true, laidKinds := [.data, .listed, .data, .pinned], laidTests := true, laidLooks := .later }
def UndoOtherUptoCardSaid : Prop := Claim7.holds Tryz.pinned (.plain (OpenSpec.upto undoOtherSpec)) undoOtherUptoCard
end Rows
end Go.Proofs.YtijhamllnnilbaaGreatDoor
