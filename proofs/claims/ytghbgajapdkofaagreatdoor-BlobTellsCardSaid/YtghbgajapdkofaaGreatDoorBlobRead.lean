/- The arguments of BlobTells, opened: a slice of ints, a slice of pages. -/
import Derived.Test.YtghbgajapdkofaaGreatDoorBlobUni
import Derived.Test.YtghbgajapdkofaaGreatDoorChecked
import Derived.ProofKit
import Derived.OpenShut
import Derived.Deep.Slices
import Derived.Deep.Fields
import Derived.Lib.SmallJoins
namespace Go.Proofs.YtghbgajapdkofaaGreatDoor.Bl
open Go.RowKit Go.Proofs.YtghbgajapdkofaaGreatDoor.Mem Go.Proofs.YtghbgajapdkofaaGreatDoor.Pg Go.Proofs.YtghbgajapdkofaaGreatDoor.Bp Go.ChangeShapes Go.WideShapes Go.Deep Go.Joins

theorem one_of_take {cs : List Value} {o : Nat} {v : Value} (h : (cs.drop o).take 1 = [v]) : cs[o]? = some v := by
  have h1 : ((cs.drop o).take 1)[0]? = some v := by rw [h]; rfl
  simpa [List.getElem?_take] using h1
theorem c_int : Tryz.prog.cellsOf 3 = 1 := by kernel_rfl
theorem c_string : Tryz.prog.cellsOf 9 = 1 := by kernel_rfl
theorem c_page : Tryz.prog.cellsOf 26 = 4 := by kernel_rfl
section
variable {H : Type} {enc : TypeId × Value → H} {w : World} {base : Nat} {spare : Nat → Bool} {held : Bool} {fuel : Nat} {x : DataW H × List MemPlace}
theorem page_cells {cs : List Value} (h : DataW.trod enc Tryz.prog w base spare held fuel 26 cs = some x) :
    ∃ p : P4, ∀ j, j < 4 → cs[j]? = p.cells[j]? := by
  obtain ⟨xs, n, _, _, hlen, hxs, hf⟩ := DataW.trod_struct Tryz.underlying26 h
  have get : ∀ (i : Nat), i < 4 → ∃ y, xs[i]? = some y := fun i hi => ⟨xs[i]'(by rw [hxs]; exact hi), List.getElem?_eq_getElem _⟩
  obtain ⟨y0, e0⟩ := get 0 (by omega)
  obtain ⟨y1, e1⟩ := get 1 (by omega)
  obtain ⟨y2, e2⟩ := get 2 (by omega)
  obtain ⟨y3, e3⟩ := get 3 (by omega)
  have f0 : DataW.trod enc Tryz.prog w base spare held n 3 ((cs.drop 0).take (Tryz.prog.cellsOf 3)) = some y0 := (hf 0 _ rfl).trans e0
  have f1 : DataW.trod enc Tryz.prog w base spare held n 3 ((cs.drop 1).take (Tryz.prog.cellsOf 3)) = some y1 := (hf 1 _ rfl).trans e1
  have f2 : DataW.trod enc Tryz.prog w base spare held n 3 ((cs.drop 2).take (Tryz.prog.cellsOf 3)) = some y2 := (hf 2 _ rfl).trans e2
  have f3 : DataW.trod enc Tryz.prog w base spare held n 9 ((cs.drop 3).take (Tryz.prog.cellsOf 9)) = some y3 := (hf 3 _ rfl).trans e3
  rw [c_int] at f0 f1 f2
  rw [c_string] at f3
  obtain ⟨a, g0, _⟩ := DataW.trod_int Tryz.underlying3 f0
  obtain ⟨b, g1, _⟩ := DataW.trod_int Tryz.underlying3 f1
  obtain ⟨c, g2, _⟩ := DataW.trod_int Tryz.underlying3 f2
  obtain ⟨s, g3, _⟩ := DataW.trod_string Tryz.underlying9 f3
  refine ⟨⟨a, b, c, s⟩, fun j hj => ?_⟩
  match j, hj with
  | 0, _ => exact one_of_take g0
  | 1, _ => exact one_of_take g1
  | 2, _ => exact one_of_take g2
  | 3, _ => exact one_of_take g3

theorem pages_of_trod {A : Option Addr} {len cap : Nat} {d : DataW H} {ps : List MemPlace} (h : DataW.Trod enc Tryz.prog w base (fun _ => true) true 23 (.slice A len cap) d ps) : ∃ L : List P4, L.length = len ∧ (len ≤ 1000 → Rp w A L) := by
  obtain ⟨fuel, hf⟩ := h
  rcases open_slice Tryz.underlying23 hf with ⟨hcs, _⟩ | ⟨a, l, c, m, n, D, Pl, hcs, _, hl, _, hm, _, hi⟩
  · simp [Value.cells] at hcs
    obtain ⟨rfl, rfl, rfl⟩ := hcs
    exact ⟨[], rfl, fun _ => ⟨by simp, fun h0 => absurd h0 (by simp)⟩⟩
  · simp [Value.cells] at hcs
    obtain ⟨rfl, rfl, rfl⟩ := hcs
    simp at hm
    have hall : ∀ i, ∃ p : P4, i < len → ∀ j, j < 4 → w.cell? ((a.add (i * 4)).add j) = p.cells[j]? := by
      intro i
      by_cases hil : i < len
      · obtain ⟨cs', hc, ht⟩ := hi i (by omega)
        rw [c_page] at hc
        obtain ⟨_, hlen, hcell⟩ := World.cells?_some hc
        obtain ⟨p, hp⟩ := page_cells ht
        exact ⟨p, fun _ j hj => (hcell j hj).trans (hp j hj)⟩
      · exact ⟨⟨0, 0, 0, ⟨#[]⟩⟩, fun h => absurd h hil⟩
    obtain ⟨f, hf'⟩ := Classical.axiomOfChoice hall
    refine ⟨(List.range len).map f, by simp, fun hle => ⟨by simp; omega, fun h0 => ?_⟩⟩
    simp at h0
    obtain ⟨b, off, spot⟩ := a
    have hspot : spot = none := by
      have h1 := hf' 0 h0 0 (by omega)
      have h2 : w.cell? ⟨b, off, spot⟩ = some (.int .i64 (f 0).k) := by simpa [Addr.add, P4.cells] using h1
      exact World.cell?_spot h2
    subst hspot
    have hc : ∀ i, i < len → ∀ j, j < 4 → w.cell? ⟨b, off + i * 4 + j, none⟩ = (f i).cells[j]? := fun i hil j hj => by
      have h1 := hf' i hil j hj
      rw [Go.WideShapes.add_plain, Go.WideShapes.add_plain] at h1
      exact h1
    refine ⟨b, off, rfl, ?_, fun i p hp j hj => ?_⟩
    · rcases Nat.lt_or_ge b w.heap.size with h | h
      · exact h
      · exfalso
        have h1 := hc 0 h0 0 (by omega)
        rw [World.cell?] at h1
        simp [Array.getElem?_eq_none h, P4.cells] at h1
    · have hil : i < len := by have := (List.getElem?_eq_some_iff.1 hp).1; simpa using this
      have : f i = p := by simpa [List.getElem?_map, List.getElem?_range hil] using hp
      rw [← this]
      exact hc i hil j hj

theorem ints_of_trod {A : Option Addr} {len cap : Nat} {d : DataW H} {ps : List MemPlace} (h : DataW.Trod enc Tryz.prog w base (fun _ => true) true 22 (.slice A len cap) d ps) : ∃ xs : List Int, xs.length = len ∧ (len ≤ 1000 → Ints w A len xs) := by
  obtain ⟨fuel, hf⟩ := h
  rcases open_slice Tryz.underlying22 hf with ⟨hcs, _⟩ | ⟨a, l, c, m, n, D, Pl, hcs, _, hl, _, hm, _, hi⟩
  · simp [Value.cells] at hcs
    obtain ⟨rfl, rfl, rfl⟩ := hcs
    exact ⟨[], rfl, fun _ => ⟨rfl, by omega, fun h0 => absurd h0 (by omega)⟩⟩
  · simp [Value.cells] at hcs
    obtain ⟨rfl, rfl, rfl⟩ := hcs
    simp at hm
    have hall : ∀ i, ∃ k : Int, i < len → w.cell? (a.add (i * 1)) = some (.int .i64 k) := by
      intro i
      by_cases hil : i < len
      · obtain ⟨cs', hc, ht⟩ := hi i (by omega)
        rw [c_int] at hc
        obtain ⟨_, hlen, hcell⟩ := World.cells?_some hc
        obtain ⟨k, h0, _⟩ := DataW.trod_int Tryz.underlying3 ht
        have h1 := hcell 0 (by omega)
        rw [h0] at h1
        exact ⟨k, fun _ => by simpa [Addr.add] using h1⟩
      · exact ⟨0, fun h => absurd h hil⟩
    obtain ⟨f, hf'⟩ := Classical.axiomOfChoice hall
    refine ⟨(List.range len).map f, by simp, fun hle => ⟨by simp, by omega, fun h0 => ?_⟩⟩
    obtain ⟨b, off, spot⟩ := a
    have hspot : spot = none := by
      have h1 := hf' 0 h0
      have h2 : w.cell? ⟨b, off, spot⟩ = some (.int .i64 (f 0)) := by simpa [Addr.add] using h1
      exact World.cell?_spot h2
    subst hspot
    have hc : ∀ i, i < len → w.cell? ⟨b, off + i, none⟩ = some (.int .i64 (f i)) := fun i hil => by
      have h1 := hf' i hil
      rw [Go.WideShapes.add_plain, Nat.mul_one] at h1
      exact h1
    refine ⟨b, off, rfl, ?_, fun i hi => ?_⟩
    · rcases Nat.lt_or_ge b w.heap.size with h | h
      · exact h
      · exfalso
        have h1 := hc 0 h0
        rw [World.cell?] at h1
        simp [Array.getElem?_eq_none h] at h1
    · rw [hc i hi]
      simp [List.getD_eq_getElem?_getD, List.getElem?_map, List.getElem?_range hi]
end
end Go.Proofs.YtghbgajapdkofaaGreatDoor.Bl
