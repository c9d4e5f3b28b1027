/- The arguments of chapter 9's laws, opened: a slice of things done, a slice of ints, a page. -/
import Derived.Test.YtgafmbdledpblaaDoorSpaceAlive
import Derived.Test.YtgafmbdledpblaaDoorChecked
import Derived.ProofKit
import Derived.OpenShut
import Derived.Deep.Slices
import Derived.Deep.Fields
import Derived.Lib.SmallJoins
namespace Go.Proofs.YtgafmbdledpblaaDoor.Sp
open Go.RowKit Go.Proofs.YtgafmbdledpblaaDoor.Mem Go.Proofs.YtgafmbdledpblaaDoor.Pg Go.ChangeShapes Go.WideShapes Go.Deep Go.Joins

theorem one_of_take {cs : List Value} {o : Nat} {v : Value} (h : (cs.drop o).take 1 = [v]) : cs[o]? = some v := by
  have h1 : ((cs.drop o).take 1)[0]? = some v := by rw [h]; rfl
  simpa [List.getElem?_take] using h1
theorem c_int : Tryd.prog.cellsOf 3 = 1 := by kernel_rfl
theorem c_string : Tryd.prog.cellsOf 9 = 1 := by kernel_rfl
theorem c_op : Tryd.prog.cellsOf 30 = 2 := by kernel_rfl
theorem c_page : Tryd.prog.cellsOf 23 = 4 := by kernel_rfl

/-- A slice of n things done: their kinds and numbers. -/
def Ops (w : World) (A : Option Addr) (n : Nat) (K N : Nat → Int) : Prop :=
  0 < n → ∃ b off, A = some ⟨b, off, none⟩ ∧ b < w.heap.size ∧ ∀ i, i < n → w.cell? ⟨b, off + i * 2, none⟩ = some (.int .i64 (K i)) ∧ w.cell? ⟨b, off + i * 2 + 1, none⟩ = some (.int .i64 (N i))

section
variable {H : Type} {enc : TypeId × Value → H} {w : World} {base : Nat} {spare : Nat → Bool} {held : Bool} {fuel : Nat} {x : DataW H × List MemPlace}
theorem op_cells {cs : List Value} (h : DataW.trod enc Tryd.prog w base spare held fuel 30 cs = some x) :
    ∃ k n : Int, cs[0]? = some (.int .i64 k) ∧ cs[1]? = some (.int .i64 n) := by
  obtain ⟨xs, n, _, _, hlen, hxs, hf⟩ := DataW.trod_struct Tryd.underlying30 h
  have get : ∀ (i : Nat), i < 2 → ∃ y, xs[i]? = some y := fun i hi => ⟨xs[i]'(by rw [hxs]; exact hi), List.getElem?_eq_getElem _⟩
  obtain ⟨y0, e0⟩ := get 0 (by omega)
  obtain ⟨y1, e1⟩ := get 1 (by omega)
  have f0 : DataW.trod enc Tryd.prog w base spare held n 3 ((cs.drop 0).take (Tryd.prog.cellsOf 3)) = some y0 := (hf 0 _ rfl).trans e0
  have f1 : DataW.trod enc Tryd.prog w base spare held n 3 ((cs.drop 1).take (Tryd.prog.cellsOf 3)) = some y1 := (hf 1 _ rfl).trans e1
  rw [c_int] at f0 f1
  obtain ⟨k, g0, _⟩ := DataW.trod_int Tryd.underlying3 f0
  obtain ⟨nn, g1, _⟩ := DataW.trod_int Tryd.underlying3 f1
  exact ⟨k, nn, one_of_take g0, one_of_take g1⟩

theorem ops_of_trod {A : Option Addr} {len cap : Nat} {d : DataW H} {ps : List MemPlace} (h : DataW.Trod enc Tryd.prog w base (fun _ => true) true 24 (.slice A len cap) d ps) : ∃ K N, Ops w A len K N := by
  obtain ⟨fuel, hf⟩ := h
  rcases open_slice Tryd.underlying24 hf with ⟨hcs, _⟩ | ⟨a, l, c, m, n, D, Pl, hcs, _, hl, _, hm, _, hi⟩
  · simp [Value.cells] at hcs
    obtain ⟨rfl, rfl, rfl⟩ := hcs
    exact ⟨fun _ => 0, fun _ => 0, fun h0 => absurd h0 (by omega)⟩
  · simp [Value.cells] at hcs
    obtain ⟨rfl, rfl, rfl⟩ := hcs
    simp at hm
    have hall : ∀ i, ∃ kn : Int × Int, i < len → w.cell? ((a.add (i * 2)).add 0) = some (.int .i64 kn.1) ∧ w.cell? ((a.add (i * 2)).add 1) = some (.int .i64 kn.2) := by
      intro i
      by_cases hil : i < len
      · obtain ⟨cs', hc, ht⟩ := hi i (by omega)
        rw [c_op] at hc
        obtain ⟨_, hlen, hcell⟩ := World.cells?_some hc
        obtain ⟨k, nn, h0, h1⟩ := op_cells ht
        exact ⟨(k, nn), fun _ => ⟨(hcell 0 (by omega)).trans h0, (hcell 1 (by omega)).trans h1⟩⟩
      · exact ⟨(0, 0), fun h => absurd h hil⟩
    obtain ⟨f, hf'⟩ := Classical.axiomOfChoice hall
    refine ⟨fun i => (f i).1, fun i => (f i).2, fun h0 => ?_⟩
    obtain ⟨b, off, spot⟩ := a
    have hspot : spot = none := by
      have h1 := (hf' 0 h0).1
      have h2 : w.cell? ⟨b, off, spot⟩ = some (.int .i64 (f 0).1) := by simpa [Addr.add] using h1
      exact World.cell?_spot h2
    subst hspot
    have ha : ∀ i j, ((⟨b, off, none⟩ : Addr).add (i * 2)).add j = ⟨b, off + i * 2 + j, none⟩ := by
      intro i j
      rw [Go.WideShapes.add_plain, Go.WideShapes.add_plain]
    have hc : ∀ i, i < len → w.cell? ⟨b, off + i * 2, none⟩ = some (.int .i64 (f i).1) ∧ w.cell? ⟨b, off + i * 2 + 1, none⟩ = some (.int .i64 (f i).2) := fun i hil => by
      have h1 := hf' i hil
      rw [ha, ha] at h1
      exact h1
    refine ⟨b, off, rfl, ?_, hc⟩
    rcases Nat.lt_or_ge b w.heap.size with h | h
    · exact h
    · exfalso
      have h1 := (hc 0 h0).1
      rw [World.cell?] at h1
      simp [Array.getElem?_eq_none h] at h1

theorem ints_of_trod {A : Option Addr} {len cap : Nat} {d : DataW H} {ps : List MemPlace} (h : DataW.Trod enc Tryd.prog w base (fun _ => true) true 40 (.slice A len cap) d ps) : ∃ K : Nat → Int, 0 < len → ∃ b off, A = some ⟨b, off, none⟩ ∧ b < w.heap.size ∧ ∀ i, i < len → w.cell? ⟨b, off + i, none⟩ = some (.int .i64 (K i)) := by
  obtain ⟨fuel, hf⟩ := h
  rcases open_slice Tryd.underlying40 hf with ⟨hcs, _⟩ | ⟨a, l, c, m, n, D, Pl, hcs, _, hl, _, hm, _, hi⟩
  · simp [Value.cells] at hcs
    obtain ⟨rfl, rfl, rfl⟩ := hcs
    exact ⟨fun _ => 0, fun h0 => absurd h0 (by omega)⟩
  · simp [Value.cells] at hcs
    obtain ⟨rfl, rfl, rfl⟩ := hcs
    simp at hm
    have hall : ∀ i, ∃ k : Int, i < len → w.cell? (a.add (i * 1)) = some (.int .i64 k) := by
      intro i
      by_cases hil : i < len
      · obtain ⟨cs', hc, ht⟩ := hi i (by omega)
        rw [c_int] at hc
        obtain ⟨_, hlen, hcell⟩ := World.cells?_some hc
        obtain ⟨k, h0, _⟩ := DataW.trod_int Tryd.underlying3 ht
        have h1 := hcell 0 (by omega)
        rw [h0] at h1
        exact ⟨k, fun _ => by simpa [Addr.add] using h1⟩
      · exact ⟨0, fun h => absurd h hil⟩
    obtain ⟨f, hf'⟩ := Classical.axiomOfChoice hall
    refine ⟨f, fun h0 => ?_⟩
    obtain ⟨b, off, spot⟩ := a
    have hspot : spot = none := by
      have h1 := hf' 0 h0
      have h2 : w.cell? ⟨b, off, spot⟩ = some (.int .i64 (f 0)) := by simpa [Addr.add] using h1
      exact World.cell?_spot h2
    subst hspot
    have hc : ∀ i, i < len → w.cell? ⟨b, off + i, none⟩ = some (.int .i64 (f i)) := fun i hil => by
      have h1 := hf' i hil
      rw [Go.WideShapes.add_plain, Nat.mul_one] at h1
      exact h1
    refine ⟨b, off, rfl, ?_, hc⟩
    rcases Nat.lt_or_ge b w.heap.size with h | h
    · exact h
    · exfalso
      have h1 := hc 0 h0
      rw [World.cell?] at h1
      simp [Array.getElem?_eq_none h] at h1
end
end Go.Proofs.YtgafmbdledpblaaDoor.Sp
