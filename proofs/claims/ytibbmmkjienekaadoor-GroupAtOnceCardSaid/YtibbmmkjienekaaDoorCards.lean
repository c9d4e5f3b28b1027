/-
  DERIVED. GIVEN WITH THE SEED: THE CARDS: each row of YtibbmmkjienekaaDoorRows.lean that lists a variable, with what it lists TIED to the program's text (the seventh form; the later family's looks); each row that meets fmt, with fmt's text TOLD by the authors' own Lean function (tested against real Go, not proved from fmt's source: count such statements apart). THE CARD IS WHAT COUNTS. Prove the row's statement (the work); the ties are given (YtibbmmkjienekaaDoorTie.lean); close each card by the builder's one call (the guide's Derived/Test/ToyasCard.lean, 'card_holds'). Laid BY PROGRAM, IN A SANDBOX (cutbox-door.mjs). By AI agents, Wed Nov 11 2026. No macro, syntax, notation, axiom, sorry.
-/
import Derived.Test.YtibbmmkjienekaaDoorRows
import GoSem.ClaimSeven
namespace Go.Proofs.YtibbmmkjienekaaDoor
namespace Rows

/-- THE TIED CARD OF 'honeycomblaw18.GroupErrors'. -/
def groupErrorsCard : Claim7 := { stood := { row := groupErrorsRow, standIns := [], harness := (true, "66fe15075963831ff6d892cf8e2ca0b33a1469cbe1f6f32a9df9a2dd07ba539e"), looks := false }, kinds := [], alts := [], laidByText := true, laidKinds := [.data, .listed, .data, .pinned], laidTests := true, laidLooks := .later }
def GroupErrorsCardSaid : Prop := Claim7.holds Tryd.pinned (.plain (OpenSpec.ofChange groupErrorsSpec)) groupErrorsCard

/-- THE TIED CARD OF 'honeycomblaw18.GroupShows'. -/
def groupShowsCard : Claim7 := { stood := { row := groupShowsRow, standIns := [], harness := (true, "66fe15075963831ff6d892cf8e2ca0b33a1469cbe1f6f32a9df9a2dd07ba539e"), looks := false }, kinds := [], alts := [], laidByText := true, laidKinds := [.data, .listed, .data, .pinned], laidTests := true, laidLooks := .later }
def GroupShowsCardSaid : Prop := Claim7.holds Tryd.pinned (.plain (OpenSpec.ofChange groupShowsSpec)) groupShowsCard

/-- THE TIED CARD OF 'honeycomblaw18.GroupTakes'. -/
def groupTakesCard : Claim7 := { stood := { row := groupTakesRow, standIns := [], harness := (true, "66fe15075963831ff6d892cf8e2ca0b33a1469cbe1f6f32a9df9a2dd07ba539e"), looks := false }, kinds := [], alts := [], laidByText := true, laidKinds := [.data, .listed, .data, .pinned], laidTests := true, laidLooks := .later }
def GroupTakesCardSaid : Prop := Claim7.holds Tryd.pinned (.plain (OpenSpec.ofChange groupTakesSpec)) groupTakesCard

/-- THE TIED CARD OF 'honeycomblaw18.GroupAtOnce'. -/
def groupAtOnceCard : Claim7 := { stood := { row := groupAtOnceRow, standIns := [], harness := (true, "66fe15075963831ff6d892cf8e2ca0b33a1469cbe1f6f32a9df9a2dd07ba539e"), looks := false }, kinds := [], alts := [], laidByText := true, laidKinds := [.data, .listed, .data, .pinned], laidTests := true, laidLooks := .later }
def GroupAtOnceCardSaid : Prop := Claim7.holds Tryd.pinned (.plain (OpenSpec.ofChange groupAtOnceSpec)) groupAtOnceCard

/-- THE SECOND FORM's CARD OF 'honeycomblaw18.GroupErrors'. -/
def groupErrorsUptoCard : Claim7 := { stood := { row := groupErrorsUptoRow, standIns := [], harness := (true, "66fe15075963831ff6d892cf8e2ca0b33a1469cbe1f6f32a9df9a2dd07ba539e"), looks := false }, kinds := [], alts := [], laidByText := true, laidKinds := [.data, .listed, .data, .pinned], laidTests := true, laidLooks := .later }
def GroupErrorsUptoCardSaid : Prop := Claim7.holds Tryd.pinned (.plain (OpenSpec.upto groupErrorsSpec)) groupErrorsUptoCard

/-- THE SECOND FORM's CARD OF 'honeycomblaw18.GroupShows'. -/
def groupShowsUptoCard : Claim7 := { stood := { row := groupShowsUptoRow, standIns := [], harness := (true, "66fe15075963831ff6d892cf8e2ca0b33a1469cbe1f6f32a9df9a2dd07ba539e"), looks := false }, kinds := [], alts := [], laidByText := true, laidKinds := [.data, .listed, .data, .pinned], laidTests := true, laidLooks := .later }
def GroupShowsUptoCardSaid : Prop := Claim7.holds Tryd.pinned (.plain (OpenSpec.upto groupShowsSpec)) groupShowsUptoCard

/-- THE SECOND FORM's CARD OF 'honeycomblaw18.GroupTakes'. -/
def groupTakesUptoCard : Claim7 := { stood := { row := groupTakesUptoRow, standIns := [], harness := (true, "66fe15075963831ff6d892cf8e2ca0b33a1469cbe1f6f32a9df9a2dd07ba539e"), looks := false }, kinds := [], alts := [], laidByText := true, laidKinds := [.data, .listed, .data, .pinned], laidTests := true, laidLooks := .later }
def GroupTakesUptoCardSaid : Prop := Claim7.holds Tryd.pinned (.plain (OpenSpec.upto groupTakesSpec)) groupTakesUptoCard

/-- THE SECOND FORM's CARD OF 'honeycomblaw18.GroupAtOnce'. -/
def groupAtOnceUptoCard : Claim7 := { stood := { row := groupAtOnceUptoRow, standIns := [], harness := (true, "66fe15075963831ff6d892cf8e2ca0b33a1469cbe1f6f32a9df9a2dd07ba539e"), looks := false }, kinds := [], alts := [], laidByText := true, laidKinds := [.data, .listed, .data, .pinned], laidTests := true, laidLooks := .later }
def GroupAtOnceUptoCardSaid : Prop := Claim7.holds Tryd.pinned (.plain (OpenSpec.upto groupAtOnceSpec)) groupAtOnceUptoCard
end Rows
end Go.Proofs.YtibbmmkjienekaaDoor
