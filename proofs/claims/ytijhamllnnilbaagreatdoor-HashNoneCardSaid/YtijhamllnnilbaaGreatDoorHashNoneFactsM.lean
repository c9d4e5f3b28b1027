/- HashNone: the row's closed facts, one a declaration. -/
import Derived.Test.YtijhamllnnilbaaGreatDoorCards
import Derived.Test.YtijhamllnnilbaaGreatDoorTie
import Derived.WalkKit
import Derived.ProofKit
import Derived.JoinedOf
namespace Go.Proofs.YtijhamllnnilbaaGreatDoor.hashNone
open Go.ChangeShapes Go.WideShapes Go.ChangeAt Go.RowKit
set_option maxRecDepth 100000
theorem both {a b : Bool} (h : a = true) (k : b = true) : (a && b) = true := by rw [h, k]; rfl
theorem fact0 : (Rows.hashNoneRow.wf (OpenSpec.ofChange (OpenSpec.ofChange Rows.hashNoneSpec).bare)) = true := by kernel_rfl
theorem fact1 : (laidOutB Tryz.prog) = true := by kernel_rfl
theorem fact2 : (mapsRowed Tryz.prog) = true := by kernel_rfl
theorem fact3 : (Tryz.f7.params.all (Tryz.prog.readableRec ·)) = true := by kernel_rfl
theorem fact4 : (namedTie Tryz.prog Rows.hashNoneRow.named (OpenSpec.ofChange Rows.hashNoneSpec).bare.vars) = true := by kernel_rfl
theorem fact5 : (Rows.hashNoneRow.stops == []) = true := by kernel_rfl
theorem fact6 : (Tryz.prog.stops == []) = true := by kernel_rfl
theorem fact7 : (Rows.hashNoneRow.knobs == []) = true := by kernel_rfl
theorem fact8 : (Tryz.prog.stopKnobs == []) = true := by kernel_rfl
theorem fact9 : (Rows.hashNoneRow.inPlace == Tryz.prog.inPlace 7) = true := by kernel_rfl
theorem fact10 : (Rows.hashNoneRow.unfollowed == Tryz.prog.unfollowed 7) = true := by kernel_rfl
theorem fact11 : (Rows.hashNoneRow.recurses == Tryz.prog.recurses 7) = true := by kernel_rfl
theorem fact12 : (Rows.hashNoneRow.named == Tryz.prog.varsNamed 7) = true := by kernel_rfl
theorem fact13 : (Rows.hashNoneRow.maps == (Tryz.f7.params.toList ++ (OpenSpec.ofChange Rows.hashNoneSpec).bare.plain.varTypes Tryz.prog).any (Tryz.prog.mapsRec ·)) = true := by kernel_rfl
theorem fact14 : (Rows.hashNoneRow.ifaces == (Tryz.f7.params.toList ++ (OpenSpec.ofChange Rows.hashNoneSpec).bare.plain.varTypes Tryz.prog).any (Tryz.prog.ifacesRec ·)) = true := by kernel_rfl
theorem fact15 : (Rows.hashNoneRow.mapsOut == Tryz.prog.mapsAmong Tryz.f7.resultTypes.toList) = true := by kernel_rfl
theorem fact16 : (Rows.hashNoneRow.loops == (Tryz.f7.params.toList ++ (OpenSpec.ofChange Rows.hashNoneSpec).bare.plain.varTypes Tryz.prog).any (Tryz.prog.loopsFrom ·)) = true := by kernel_rfl
theorem fact17 : (Rows.hashNoneRow.wideKeys == (Tryz.f7.params.toList ++ (OpenSpec.ofChange Rows.hashNoneSpec).bare.plain.varTypes Tryz.prog ++ Tryz.f7.resultTypes.toList).any (Tryz.prog.wideKeysFrom ·)) = true := by kernel_rfl
theorem fact18 : (OpenSpec.ofChange Rows.hashNoneSpec).bare.vars.all (Tryz.prog.varReadable ·) = true := by kernel_rfl
theorem fact19 : (Tryz.f7.resultTypes.all (fun t => Tryz.prog.readableRec t && decide (t < Tryz.prog.types.size))) = true := by kernel_rfl
theorem fact20 : (Rows.hashNoneRow.ifacesOut == Tryz.f7.resultTypes.toList.any (Tryz.prog.ifacesRec ·)) = true := by kernel_rfl
theorem fact21 : (Rows.hashNoneRow.loopsOut == Tryz.f7.resultTypes.toList.any (Tryz.prog.loopsFrom ·)) = true := by kernel_rfl
theorem fact22 : (Rows.hashNoneRow.plainKeys == Tryz.prog.plainKeys) = true := by kernel_rfl
theorem fact23 : (Rows.hashNoneRow.shortTexts.isNone) = true := by kernel_rfl
theorem fact24 : (Tryz.prog.stopsHeard) = true := by kernel_rfl
theorem fact25 : (Tryz.prog.mayEnter) = true := by kernel_rfl
theorem fact26 : (Rows.hashNoneRow.lifted == Tryz.prog.liftsFinal) = true := by kernel_rfl
theorem fact27 : (Tryz.prog.make == some Rows.hashNoneRow.make) = true := by kernel_rfl
theorem fact28 : (Rows.hashNoneRow.kinds == (if Rows.hashNoneRow.domain.isEmpty then [] else Tryz.f7.params.toList.map fun t => match Tryz.prog.underlying t with | some (.int k) => some k | _ => none)) = true := by kernel_rfl
theorem fact29 : (Rows.hashNoneRow.pinned == Rows.hashNoneRow.pinnedBy) = true := by kernel_rfl
theorem fact30 : (Rows.hashNoneRow.veiled == (Tryz.f7.params.toList ++ (OpenSpec.ofChange Rows.hashNoneSpec).bare.plain.varTypes Tryz.prog ++ Tryz.f7.resultTypes.toList).any (Tryz.prog.veiledRec ·)) = true := by kernel_rfl
theorem fact31 : (Rows.hashNoneRow.veiledFits Tryz.prog Tryz.f7.params.toList (Tryz.f7.params.toList ++ (OpenSpec.ofChange Rows.hashNoneSpec).bare.plain.varTypes Tryz.prog ++ Tryz.f7.resultTypes.toList)) = true := by kernel_rfl
theorem closed : joinedFacts Tryz.prog 7 Tryz.f7 (OpenSpec.ofChange Rows.hashNoneSpec).bare Rows.hashNoneRow = true := by
  unfold joinedFacts
  exact both (both (both (both (both (both (both (both (both (both (both (both (both (both (both (both (both (both (both (both (both (both (both (both (both (both (both (both (both (both (both fact0 fact1) fact2) fact3) fact4) fact5) fact6) fact7) fact8) fact9) fact10) fact11) fact12) fact13) fact14) fact15) fact16) fact17) fact18) fact19) fact20) fact21) fact22) fact23) fact24) fact25) fact26) fact27) fact28) fact29) fact30) fact31
theorem wf : (Rows.hashNoneRow).wfByText (OpenSpec.ofChange Rows.hashNoneSpec) = true := by kernel_rfl
theorem goes : false = (Rows.hashNoneRow).goesBy Tryz.pinned.checked.prog := by kernel_rfl
end Go.Proofs.YtijhamllnnilbaaGreatDoor.hashNone
