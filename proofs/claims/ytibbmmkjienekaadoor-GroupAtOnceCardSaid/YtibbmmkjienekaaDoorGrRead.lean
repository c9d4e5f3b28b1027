/- The arguments of chapter 18's laws, opened: a page, a slice of ints. The library's table of blanks, off the row's condition. -/
import Derived.Test.YtibbmmkjienekaaDoorGrAlive
import Derived.Test.YtibbmmkjienekaaDoorChecked
import Derived.ProofKit
import Derived.OpenShut
import Derived.Deep.Slices
import Derived.Deep.Fields
import Derived.Lib.SmallJoins
import Derived.Lib.LaidU8
namespace Go.Proofs.YtibbmmkjienekaaDoor.Gr
open Go.RowKit Go.Proofs.YtibbmmkjienekaaDoor.Mem Go.Proofs.YtibbmmkjienekaaDoor.Pg Go.ChangeShapes Go.WideShapes Go.Deep Go.Joins

theorem tab_of_reads {W : World} (h : Lib.VarReads Tryd.prog W "strings.asciiSpace" (Lib.tabData .u8 Lib.asciiSpaceTab)) : Tab W := by
  obtain ⟨g', t', cs, fuel, p, hg', ht', hvar, hd⟩ := h
  obtain rfl := Option.some.inj ((show Tryd.prog.globalNamed "strings.asciiSpace" = some 0 by kernel_rfl).symm.trans hg')
  obtain rfl := Option.some.inj ((show (Tryd.prog.globals[0]?).map (·.type) = some 109 by kernel_rfl).symm.trans ht')
  unfold Tab Lib.TabIs
  rw [hvar, ← Lib.cells_of_tab (n := 256) Tryd.underlying109 Tryd.underlying5 (by kernel_rfl) (by kernel_rfl) hd]
theorem one_of_take {cs : List Value} {o : Nat} {v : Value} (h : (cs.drop o).take 1 = [v]) : cs[o]? = some v := by
  have h1 : ((cs.drop o).take 1)[0]? = some v := by rw [h]; rfl
  simpa [List.getElem?_take] using h1
theorem c_int : Tryd.prog.cellsOf 3 = 1 := by kernel_rfl
theorem c_string : Tryd.prog.cellsOf 9 = 1 := by kernel_rfl
theorem c_page : Tryd.prog.cellsOf 23 = 4 := by kernel_rfl
section
variable {H : Type} {enc : TypeId × Value → H} {w : World} {base : Nat} {spare : Nat → Bool} {held : Bool} {fuel : Nat} {x : DataW H × List MemPlace}
theorem ints_of_trod {A : Option Addr} {len cap : Nat} {d : DataW H} {ps : List MemPlace} (h : DataW.Trod enc Tryd.prog w base (fun _ => true) true 44 (.slice A len cap) d ps) : ∃ K : Nat → Int, 0 < len → ∃ b off, A = some ⟨b, off, none⟩ ∧ b < w.heap.size ∧ ∀ i, i < len → w.cell? ⟨b, off + i, none⟩ = some (.int .i64 (K i)) := by
  obtain ⟨fuel, hf⟩ := h
  rcases open_slice Tryd.underlying44 hf with ⟨hcs, _⟩ | ⟨a, l, c, m, n, D, Pl, hcs, _, hl, _, hm, _, hi⟩
  · simp [Value.cells] at hcs
    obtain ⟨rfl, rfl, rfl⟩ := hcs
    exact ⟨fun _ => 0, fun h0 => absurd h0 (by omega)⟩
  · simp [Value.cells] at hcs
    obtain ⟨rfl, rfl, rfl⟩ := hcs
    simp at hm
    have hall : ∀ i, ∃ k : Int, i < len → w.cell? (a.add (i * 1)) = some (.int .i64 k) := by
      intro i
      by_cases hil : i < len
      · obtain ⟨cs', hc, ht⟩ := hi i (by omega)
        rw [c_int] at hc
        obtain ⟨_, hlen, hcell⟩ := World.cells?_some hc
        obtain ⟨k, h0, _⟩ := DataW.trod_int Tryd.underlying3 ht
        have h1 := hcell 0 (by omega)
        rw [h0] at h1
        exact ⟨k, fun _ => by simpa [Addr.add] using h1⟩
      · exact ⟨0, fun h => absurd h hil⟩
    obtain ⟨f, hf'⟩ := Classical.axiomOfChoice hall
    refine ⟨f, fun h0 => ?_⟩
    obtain ⟨b, off, spot⟩ := a
    have hspot : spot = none := by
      have h1 := hf' 0 h0
      have h2 : w.cell? ⟨b, off, spot⟩ = some (.int .i64 (f 0)) := by simpa [Addr.add] using h1
      exact World.cell?_spot h2
    subst hspot
    have hc : ∀ i, i < len → w.cell? ⟨b, off + i, none⟩ = some (.int .i64 (f i)) := fun i hil => by
      have h1 := hf' i hil
      rw [Go.WideShapes.add_plain, Nat.mul_one] at h1
      exact h1
    refine ⟨b, off, rfl, ?_, hc⟩
    rcases Nat.lt_or_ge b w.heap.size with h | h
    · exact h
    · exfalso
      have h1 := hc 0 h0
      rw [World.cell?] at h1
      simp [Array.getElem?_eq_none h] at h1
theorem page_cells {cs : List Value} (h : DataW.trod enc Tryd.prog w base spare held fuel 23 cs = some x) :
    ∃ (k d y : Int) (s : ByteArray), cs[0]? = some (.int .i64 k) ∧ cs[1]? = some (.int .i64 d) ∧ cs[2]? = some (.int .i64 y) ∧ cs[3]? = some (.string s) := by
  obtain ⟨xs, n, _, _, hlen, hxs, hf⟩ := DataW.trod_struct Tryd.underlying23 h
  have get : ∀ (i : Nat), i < 4 → ∃ y, xs[i]? = some y := fun i hi => ⟨xs[i]'(by rw [hxs]; exact hi), List.getElem?_eq_getElem _⟩
  obtain ⟨y0, e0⟩ := get 0 (by omega)
  obtain ⟨y1, e1⟩ := get 1 (by omega)
  obtain ⟨y2, e2⟩ := get 2 (by omega)
  obtain ⟨y3, e3⟩ := get 3 (by omega)
  have f0 : DataW.trod enc Tryd.prog w base spare held n 3 ((cs.drop 0).take (Tryd.prog.cellsOf 3)) = some y0 := (hf 0 _ rfl).trans e0
  have f1 : DataW.trod enc Tryd.prog w base spare held n 3 ((cs.drop 1).take (Tryd.prog.cellsOf 3)) = some y1 := (hf 1 _ rfl).trans e1
  have f2 : DataW.trod enc Tryd.prog w base spare held n 3 ((cs.drop 2).take (Tryd.prog.cellsOf 3)) = some y2 := (hf 2 _ rfl).trans e2
  have f3 : DataW.trod enc Tryd.prog w base spare held n 9 ((cs.drop 3).take (Tryd.prog.cellsOf 9)) = some y3 := (hf 3 _ rfl).trans e3
  rw [c_int] at f0 f1 f2
  rw [c_string] at f3
  obtain ⟨a, g0, _⟩ := DataW.trod_int Tryd.underlying3 f0
  obtain ⟨b, g1, _⟩ := DataW.trod_int Tryd.underlying3 f1
  obtain ⟨c, g2, _⟩ := DataW.trod_int Tryd.underlying3 f2
  obtain ⟨s, g3, _⟩ := DataW.trod_string Tryd.underlying9 f3
  exact ⟨a, b, c, s, one_of_take g0, one_of_take g1, one_of_take g2, one_of_take g3⟩
set_option maxRecDepth 100000 in
theorem page_of {r : Reach} {b0 : Nat} {v : Value} {d : DataW H} {ps : List MemPlace} (hv : Value.okWide Tryd.prog w r b0 23 v) (h : DataW.Trod enc Tryd.prog w base spare held 23 v d ps) :
    ∃ (k d y : Int) (s : ByteArray), v = .agg #[.int .i64 k, .int .i64 d, .int .i64 y, .string s] := by
  obtain ⟨cs, hv2, hsz⟩ := okWide_struct Tryd.underlying23 hv
  subst hv2
  rw [c_page] at hsz
  obtain ⟨fuel, hf⟩ := h
  obtain ⟨k, d, y, s, h0, h1, h2, h3⟩ := page_cells hf
  refine ⟨k, d, y, s, ?_⟩
  refine congrArg Value.agg ?_
  apply Array.ext'
  refine List.ext_getElem? fun i => ?_
  match i with
  | 0 => exact h0
  | 1 => exact h1
  | 2 => exact h2
  | 3 => exact h3
  | i + 4 =>
    rw [List.getElem?_eq_none (by simp [hsz]), List.getElem?_eq_none (by simp)]
end
end Go.Proofs.YtibbmmkjienekaaDoor.Gr
