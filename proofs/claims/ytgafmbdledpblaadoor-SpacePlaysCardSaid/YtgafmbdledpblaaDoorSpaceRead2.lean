/- A page that is handed in by value, opened. -/
import Derived.Test.YtgafmbdledpblaaDoorSpaceRead
namespace Go.Proofs.YtgafmbdledpblaaDoor.Sp
open Go.RowKit Go.Proofs.YtgafmbdledpblaaDoor.Mem Go.Proofs.YtgafmbdledpblaaDoor.Pg Go.ChangeShapes Go.WideShapes Go.Deep Go.Joins
section
variable {H : Type} {enc : TypeId × Value → H} {w : World} {base : Nat} {spare : Nat → Bool} {held : Bool} {fuel : Nat} {x : DataW H × List MemPlace}
theorem page_cells {cs : List Value} (h : DataW.trod enc Tryd.prog w base spare held fuel 23 cs = some x) :
    ∃ (k d y : Int) (s : ByteArray), cs[0]? = some (.int .i64 k) ∧ cs[1]? = some (.int .i64 d) ∧ cs[2]? = some (.int .i64 y) ∧ cs[3]? = some (.string s) := by
  obtain ⟨xs, n, _, _, hlen, hxs, hf⟩ := DataW.trod_struct Tryd.underlying23 h
  have get : ∀ (i : Nat), i < 4 → ∃ y, xs[i]? = some y := fun i hi => ⟨xs[i]'(by rw [hxs]; exact hi), List.getElem?_eq_getElem _⟩
  obtain ⟨y0, e0⟩ := get 0 (by omega)
  obtain ⟨y1, e1⟩ := get 1 (by omega)
  obtain ⟨y2, e2⟩ := get 2 (by omega)
  obtain ⟨y3, e3⟩ := get 3 (by omega)
  have f0 : DataW.trod enc Tryd.prog w base spare held n 3 ((cs.drop 0).take (Tryd.prog.cellsOf 3)) = some y0 := (hf 0 _ rfl).trans e0
  have f1 : DataW.trod enc Tryd.prog w base spare held n 3 ((cs.drop 1).take (Tryd.prog.cellsOf 3)) = some y1 := (hf 1 _ rfl).trans e1
  have f2 : DataW.trod enc Tryd.prog w base spare held n 3 ((cs.drop 2).take (Tryd.prog.cellsOf 3)) = some y2 := (hf 2 _ rfl).trans e2
  have f3 : DataW.trod enc Tryd.prog w base spare held n 9 ((cs.drop 3).take (Tryd.prog.cellsOf 9)) = some y3 := (hf 3 _ rfl).trans e3
  rw [c_int] at f0 f1 f2
  rw [c_string] at f3
  obtain ⟨a, g0, _⟩ := DataW.trod_int Tryd.underlying3 f0
  obtain ⟨b, g1, _⟩ := DataW.trod_int Tryd.underlying3 f1
  obtain ⟨c, g2, _⟩ := DataW.trod_int Tryd.underlying3 f2
  obtain ⟨s, g3, _⟩ := DataW.trod_string Tryd.underlying9 f3
  exact ⟨a, b, c, s, one_of_take g0, one_of_take g1, one_of_take g2, one_of_take g3⟩
set_option maxRecDepth 100000 in
theorem page_of {r : Reach} {b0 : Nat} {v : Value} {d : DataW H} {ps : List MemPlace} (hv : Value.okWide Tryd.prog w r b0 23 v) (h : DataW.Trod enc Tryd.prog w base spare held 23 v d ps) :
    ∃ (k d y : Int) (s : ByteArray), v = .agg #[.int .i64 k, .int .i64 d, .int .i64 y, .string s] := by
  obtain ⟨cs, hv2, hsz⟩ := okWide_struct Tryd.underlying23 hv
  subst hv2
  rw [c_page] at hsz
  obtain ⟨fuel, hf⟩ := h
  obtain ⟨k, d, y, s, h0, h1, h2, h3⟩ := page_cells hf
  refine ⟨k, d, y, s, ?_⟩
  refine congrArg Value.agg ?_
  apply Array.ext'
  refine List.ext_getElem? fun i => ?_
  match i with
  | 0 => exact h0
  | 1 => exact h1
  | 2 => exact h2
  | 3 => exact h3
  | i + 4 =>
    rw [List.getElem?_eq_none (by simp [hsz]), List.getElem?_eq_none (by simp)]
end
end Go.Proofs.YtgafmbdledpblaaDoor.Sp
