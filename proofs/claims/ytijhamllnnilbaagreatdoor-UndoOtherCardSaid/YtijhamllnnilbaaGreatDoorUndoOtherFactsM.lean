/- UndoOther: the row's closed facts, one a declaration. -/
import Derived.Test.YtijhamllnnilbaaGreatDoorCards
import Derived.Test.YtijhamllnnilbaaGreatDoorTie
import Derived.WalkKit
import Derived.ProofKit
import Derived.JoinedOf
namespace Go.Proofs.YtijhamllnnilbaaGreatDoor.undoOther
open Go.ChangeShapes Go.WideShapes Go.ChangeAt Go.RowKit
set_option maxRecDepth 100000
theorem both {a b : Bool} (h : a = true) (k : b = true) : (a && b) = true := by rw [h, k]; rfl
theorem fact0 : (Rows.undoOtherRow.wf (OpenSpec.ofChange (OpenSpec.ofChange Rows.undoOtherSpec).bare)) = true := by kernel_rfl
theorem fact1 : (laidOutB Tryz.prog) = true := by kernel_rfl
theorem fact2 : (mapsRowed Tryz.prog) = true := by kernel_rfl
theorem fact3 : (Tryz.f12.params.all (Tryz.prog.readableRec ·)) = true := by kernel_rfl
theorem fact4 : (namedTie Tryz.prog Rows.undoOtherRow.named (OpenSpec.ofChange Rows.undoOtherSpec).bare.vars) = true := by kernel_rfl
theorem fact5 : (Rows.undoOtherRow.stops == []) = true := by kernel_rfl
theorem fact6 : (Tryz.prog.stops == []) = true := by kernel_rfl
theorem fact7 : (Rows.undoOtherRow.knobs == []) = true := by kernel_rfl
theorem fact8 : (Tryz.prog.stopKnobs == []) = true := by kernel_rfl
theorem fact9 : (Rows.undoOtherRow.inPlace == Tryz.prog.inPlace 12) = true := by kernel_rfl
theorem fact10 : (Rows.undoOtherRow.unfollowed == Tryz.prog.unfollowed 12) = true := by kernel_rfl
theorem fact11 : (Rows.undoOtherRow.recurses == Tryz.prog.recurses 12) = true := by kernel_rfl
theorem fact12 : (Rows.undoOtherRow.named == Tryz.prog.varsNamed 12) = true := by kernel_rfl
theorem fact13 : (Rows.undoOtherRow.maps == (Tryz.f12.params.toList ++ (OpenSpec.ofChange Rows.undoOtherSpec).bare.plain.varTypes Tryz.prog).any (Tryz.prog.mapsRec ·)) = true := by kernel_rfl
theorem fact14 : (Rows.undoOtherRow.ifaces == (Tryz.f12.params.toList ++ (OpenSpec.ofChange Rows.undoOtherSpec).bare.plain.varTypes Tryz.prog).any (Tryz.prog.ifacesRec ·)) = true := by kernel_rfl
theorem fact15 : (Rows.undoOtherRow.mapsOut == Tryz.prog.mapsAmong Tryz.f12.resultTypes.toList) = true := by kernel_rfl
theorem fact16 : (Rows.undoOtherRow.loops == (Tryz.f12.params.toList ++ (OpenSpec.ofChange Rows.undoOtherSpec).bare.plain.varTypes Tryz.prog).any (Tryz.prog.loopsFrom ·)) = true := by kernel_rfl
theorem fact17 : (Rows.undoOtherRow.wideKeys == (Tryz.f12.params.toList ++ (OpenSpec.ofChange Rows.undoOtherSpec).bare.plain.varTypes Tryz.prog ++ Tryz.f12.resultTypes.toList).any (Tryz.prog.wideKeysFrom ·)) = true := by kernel_rfl
theorem fact18 : (OpenSpec.ofChange Rows.undoOtherSpec).bare.vars.all (Tryz.prog.varReadable ·) = true := by kernel_rfl
theorem fact19 : (Tryz.f12.resultTypes.all (fun t => Tryz.prog.readableRec t && decide (t < Tryz.prog.types.size))) = true := by kernel_rfl
theorem fact20 : (Rows.undoOtherRow.ifacesOut == Tryz.f12.resultTypes.toList.any (Tryz.prog.ifacesRec ·)) = true := by kernel_rfl
theorem fact21 : (Rows.undoOtherRow.loopsOut == Tryz.f12.resultTypes.toList.any (Tryz.prog.loopsFrom ·)) = true := by kernel_rfl
theorem fact22 : (Rows.undoOtherRow.plainKeys == Tryz.prog.plainKeys) = true := by kernel_rfl
theorem fact23 : (Rows.undoOtherRow.shortTexts.isNone) = true := by kernel_rfl
theorem fact24 : (Tryz.prog.stopsHeard) = true := by kernel_rfl
theorem fact25 : (Tryz.prog.mayEnter) = true := by kernel_rfl
theorem fact26 : (Rows.undoOtherRow.lifted == Tryz.prog.liftsFinal) = true := by kernel_rfl
theorem fact27 : (Tryz.prog.make == some Rows.undoOtherRow.make) = true := by kernel_rfl
theorem fact28 : (Rows.undoOtherRow.kinds == (if Rows.undoOtherRow.domain.isEmpty then [] else Tryz.f12.params.toList.map fun t => match Tryz.prog.underlying t with | some (.int k) => some k | _ => none)) = true := by kernel_rfl
theorem fact29 : (Rows.undoOtherRow.pinned == Rows.undoOtherRow.pinnedBy) = true := by kernel_rfl
theorem fact30 : (Rows.undoOtherRow.veiled == (Tryz.f12.params.toList ++ (OpenSpec.ofChange Rows.undoOtherSpec).bare.plain.varTypes Tryz.prog ++ Tryz.f12.resultTypes.toList).any (Tryz.prog.veiledRec ·)) = true := by kernel_rfl
theorem fact31 : (Rows.undoOtherRow.veiledFits Tryz.prog Tryz.f12.params.toList (Tryz.f12.params.toList ++ (OpenSpec.ofChange Rows.undoOtherSpec).bare.plain.varTypes Tryz.prog ++ Tryz.f12.resultTypes.toList)) = true := by kernel_rfl
theorem closed : joinedFacts Tryz.prog 12 Tryz.f12 (OpenSpec.ofChange Rows.undoOtherSpec).bare Rows.undoOtherRow = true := by
  unfold joinedFacts
  exact both (both (both (both (both (both (both (both (both (both (both (both (both (both (both (both (both (both (both (both (both (both (both (both (both (both (both (both (both (both (both fact0 fact1) fact2) fact3) fact4) fact5) fact6) fact7) fact8) fact9) fact10) fact11) fact12) fact13) fact14) fact15) fact16) fact17) fact18) fact19) fact20) fact21) fact22) fact23) fact24) fact25) fact26) fact27) fact28) fact29) fact30) fact31
theorem wf : (Rows.undoOtherRow).wfByText (OpenSpec.ofChange Rows.undoOtherSpec) = true := by kernel_rfl
theorem goes : false = (Rows.undoOtherRow).goesBy Tryz.pinned.checked.prog := by kernel_rfl
end Go.Proofs.YtijhamllnnilbaaGreatDoor.undoOther
