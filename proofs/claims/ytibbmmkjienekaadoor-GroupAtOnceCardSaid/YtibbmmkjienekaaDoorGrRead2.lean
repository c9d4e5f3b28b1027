/- A slice of what is done to a group, opened. -/
import Derived.Test.YtibbmmkjienekaaDoorGrRead
namespace Go.Proofs.YtibbmmkjienekaaDoor.Gr
open Go.RowKit Go.Proofs.YtibbmmkjienekaaDoor.Mem Go.Proofs.YtibbmmkjienekaaDoor.Pg Go.ChangeShapes Go.WideShapes Go.Deep Go.Joins
theorem c_op : Tryd.prog.cellsOf 53 = 6 := by kernel_rfl
/-- One thing done: its kind, its number, its page. -/
structure GOp where
  k : Int
  n : Int
  pk : Int
  pd : Int
  px : Int
  s : ByteArray
def GOp.cells (o : GOp) : List Value := [.int .i64 o.k, .int .i64 o.n, .int .i64 o.pk, .int .i64 o.pd, .int .i64 o.px, .string o.s]
section
variable {H : Type} {enc : TypeId × Value → H} {w : World} {base : Nat} {spare : Nat → Bool} {held : Bool} {fuel : Nat} {x : DataW H × List MemPlace}
theorem gop_cells {cs : List Value} (h : DataW.trod enc Tryd.prog w base spare held fuel 53 cs = some x) : ∃ o : GOp, ∀ i, i < 6 → cs[i]? = o.cells[i]? := by
  obtain ⟨xs, n, _, _, hlen, hxs, hf⟩ := DataW.trod_struct Tryd.underlying53 h
  have get : ∀ (i : Nat), i < 3 → ∃ y, xs[i]? = some y := fun i hi => ⟨xs[i]'(by rw [hxs]; exact hi), List.getElem?_eq_getElem _⟩
  obtain ⟨y0, e0⟩ := get 0 (by omega)
  obtain ⟨y1, e1⟩ := get 1 (by omega)
  obtain ⟨y2, e2⟩ := get 2 (by omega)
  have f0 : DataW.trod enc Tryd.prog w base spare held n 3 ((cs.drop 0).take (Tryd.prog.cellsOf 3)) = some y0 := (hf 0 _ rfl).trans e0
  have f1 : DataW.trod enc Tryd.prog w base spare held n 3 ((cs.drop 1).take (Tryd.prog.cellsOf 3)) = some y1 := (hf 1 _ rfl).trans e1
  have f2 : DataW.trod enc Tryd.prog w base spare held n 23 ((cs.drop 2).take (Tryd.prog.cellsOf 23)) = some y2 := (hf 2 _ rfl).trans e2
  rw [c_int] at f0 f1
  rw [c_page] at f2
  obtain ⟨a, g0, _⟩ := DataW.trod_int Tryd.underlying3 f0
  obtain ⟨b, g1, _⟩ := DataW.trod_int Tryd.underlying3 f1
  obtain ⟨k, d, y, s, p0, p1, p2, p3⟩ := page_cells f2
  have sub : ∀ r, r < 4 → ((cs.drop 2).take 4)[r]? = cs[2 + r]? := fun r hr => by rw [List.getElem?_take_of_lt hr, List.getElem?_drop]
  refine ⟨⟨a, b, k, d, y, s⟩, fun i hi => ?_⟩
  match i, hi with
  | 0, _ => exact one_of_take g0
  | 1, _ => exact one_of_take g1
  | 2, _ => exact (sub 0 (by omega)).symm.trans p0
  | 3, _ => exact (sub 1 (by omega)).symm.trans p1
  | 4, _ => exact (sub 2 (by omega)).symm.trans p2
  | 5, _ => exact (sub 3 (by omega)).symm.trans p3
theorem gops_of_trod {A : Option Addr} {len cap : Nat} {d : DataW H} {ps : List MemPlace} (h : DataW.Trod enc Tryd.prog w base (fun _ => true) true 51 (.slice A len cap) d ps) :
    ∃ K : Nat → GOp, 0 < len → ∃ b off, A = some ⟨b, off, none⟩ ∧ b < w.heap.size ∧ ∀ i, i < len → ∀ r, r < 6 → w.cell? ⟨b, off + i * 6 + r, none⟩ = (K i).cells[r]? := by
  obtain ⟨fuel, hf⟩ := h
  rcases open_slice Tryd.underlying51 hf with ⟨hcs, _⟩ | ⟨a, l, c, m, n, D, Pl, hcs, _, hl, _, hm, _, hi⟩
  · simp [Value.cells] at hcs
    obtain ⟨rfl, rfl, rfl⟩ := hcs
    exact ⟨fun _ => ⟨0, 0, 0, 0, 0, ⟨#[]⟩⟩, fun h0 => absurd h0 (by omega)⟩
  · simp [Value.cells] at hcs
    obtain ⟨rfl, rfl, rfl⟩ := hcs
    simp at hm
    have hall : ∀ i, ∃ o : GOp, i < len → ∀ r, r < 6 → w.cell? ((a.add (i * 6)).add r) = o.cells[r]? := by
      intro i
      by_cases hil : i < len
      · obtain ⟨cs', hc, ht⟩ := hi i (by omega)
        rw [c_op] at hc
        obtain ⟨_, hlen, hcell⟩ := World.cells?_some hc
        obtain ⟨o, ho⟩ := gop_cells ht
        exact ⟨o, fun _ r hr => (hcell r (by omega)).trans (ho r hr)⟩
      · exact ⟨⟨0, 0, 0, 0, 0, ⟨#[]⟩⟩, fun h => absurd h hil⟩
    obtain ⟨f, hf'⟩ := Classical.axiomOfChoice hall
    refine ⟨f, fun h0 => ?_⟩
    obtain ⟨b, off, spot⟩ := a
    have hspot : spot = none := by
      have h1 := hf' 0 h0 0 (by omega)
      have h2 : w.cell? ⟨b, off, spot⟩ = some (.int .i64 (f 0).k) := by simpa [Addr.add, GOp.cells] using h1
      exact World.cell?_spot h2
    subst hspot
    have ha : ∀ i j, ((⟨b, off, none⟩ : Addr).add (i * 6)).add j = ⟨b, off + i * 6 + j, none⟩ := by
      intro i j
      rw [Go.WideShapes.add_plain, Go.WideShapes.add_plain]
    have hc : ∀ i, i < len → ∀ r, r < 6 → w.cell? ⟨b, off + i * 6 + r, none⟩ = (f i).cells[r]? := fun i hil r hr => by
      have h1 := hf' i hil r hr
      rw [ha] at h1
      exact h1
    refine ⟨b, off, rfl, ?_, hc⟩
    rcases Nat.lt_or_ge b w.heap.size with h | h
    · exact h
    · exfalso
      have h1 := hc 0 h0 0 (by omega)
      rw [World.cell?] at h1
      simp [Array.getElem?_eq_none h, GOp.cells] at h1
end
end Go.Proofs.YtibbmmkjienekaaDoor.Gr
