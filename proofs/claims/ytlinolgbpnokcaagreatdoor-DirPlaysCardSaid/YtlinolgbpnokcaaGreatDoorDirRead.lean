/- The arguments of chapter 10's laws, opened: a slice of things done, four numbers each. -/
import Derived.Test.YtlinolgbpnokcaaGreatDoorDirAlive
import Derived.Test.YtlinolgbpnokcaaGreatDoorChecked
import Derived.ProofKit
import Derived.OpenShut
import Derived.Deep.Slices
import Derived.Deep.Fields
import Derived.Lib.SmallJoins
namespace Go.Proofs.YtlinolgbpnokcaaGreatDoor.Dr
open Go.RowKit Go.Proofs.YtlinolgbpnokcaaGreatDoor.Mem Go.Proofs.YtlinolgbpnokcaaGreatDoor.Pg Go.ChangeShapes Go.WideShapes Go.Deep Go.Joins

theorem one_of_take {cs : List Value} {o : Nat} {v : Value} (h : (cs.drop o).take 1 = [v]) : cs[o]? = some v := by
  have h1 : ((cs.drop o).take 1)[0]? = some v := by rw [h]; rfl
  simpa [List.getElem?_take] using h1
theorem c_int : Tryz.prog.cellsOf 3 = 1 := by kernel_rfl
theorem c_op : Tryz.prog.cellsOf 43 = 4 := by kernel_rfl

/-- A slice of n things done: its numbers, four each. -/
def Ops (w : World) (A : Option Addr) (n : Nat) (F : Nat → Nat → Int) : Prop :=
  0 < n → ∃ b off, A = some ⟨b, off, none⟩ ∧ b < w.heap.size ∧ ∀ i, i < n → ∀ j, j < 4 → w.cell? ⟨b, off + i * 4 + j, none⟩ = some (.int .i64 (F i j))
theorem Ops.below {w w' : World} {A : Option Addr} {n : Nat} {F : Nat → Nat → Int} (h : Ops w A n F) (hb : Below w.heap.size w w') : Ops w' A n F := fun h0 => by
  obtain ⟨b, off, hA, hl, hc⟩ := h h0
  exact ⟨b, off, hA, Nat.lt_of_lt_of_le hl hb.size, fun i hi j hj => (hb.cell (p := ⟨b, off + i * 4 + j, none⟩) hl).trans (hc i hi j hj)⟩

section
variable {H : Type} {enc : TypeId × Value → H} {w : World} {base : Nat} {spare : Nat → Bool} {held : Bool} {fuel : Nat} {x : DataW H × List MemPlace}
theorem op_cells {cs : List Value} (h : DataW.trod enc Tryz.prog w base spare held fuel 43 cs = some x) :
    ∃ f : Nat → Int, ∀ j, j < 4 → cs[j]? = some (.int .i64 (f j)) := by
  obtain ⟨xs, n, _, _, hlen, hxs, hf⟩ := DataW.trod_struct Tryz.underlying43 h
  have get : ∀ (i : Nat), i < 4 → ∃ y, xs[i]? = some y := fun i hi => ⟨xs[i]'(by rw [hxs]; exact hi), List.getElem?_eq_getElem _⟩
  have all : ∀ j, ∃ z : Int, j < 4 → cs[j]? = some (.int .i64 z) := by
    intro j
    by_cases hj : j < 4
    · obtain ⟨y, e⟩ := get j hj
      have f : DataW.trod enc Tryz.prog w base spare held n 3 ((cs.drop j).take (Tryz.prog.cellsOf 3)) = some y := by
        match j, hj with
        | 0, _ => exact (hf 0 _ rfl).trans e
        | 1, _ => exact (hf 1 _ rfl).trans e
        | 2, _ => exact (hf 2 _ rfl).trans e
        | 3, _ => exact (hf 3 _ rfl).trans e
      rw [c_int] at f
      obtain ⟨k, g, _⟩ := DataW.trod_int Tryz.underlying3 f
      exact ⟨k, fun _ => one_of_take g⟩
    · exact ⟨0, fun h => absurd h hj⟩
  obtain ⟨f, hf'⟩ := Classical.axiomOfChoice all
  exact ⟨f, hf'⟩

theorem ops_of_trod {A : Option Addr} {len cap : Nat} {d : DataW H} {ps : List MemPlace} (h : DataW.Trod enc Tryz.prog w base (fun _ => true) true 24 (.slice A len cap) d ps) : ∃ F, Ops w A len F := by
  obtain ⟨fuel, hf⟩ := h
  rcases open_slice Tryz.underlying24 hf with ⟨hcs, _⟩ | ⟨a, l, c, m, n, D, Pl, hcs, _, hl, _, hm, _, hi⟩
  · simp [Value.cells] at hcs
    obtain ⟨rfl, rfl, rfl⟩ := hcs
    exact ⟨fun _ _ => 0, fun h0 => absurd h0 (by omega)⟩
  · simp [Value.cells] at hcs
    obtain ⟨rfl, rfl, rfl⟩ := hcs
    simp at hm
    have hall : ∀ i, ∃ f : Nat → Int, i < len → ∀ j, j < 4 → w.cell? ((a.add (i * 4)).add j) = some (.int .i64 (f j)) := by
      intro i
      by_cases hil : i < len
      · obtain ⟨cs', hc, ht⟩ := hi i (by omega)
        rw [c_op] at hc
        obtain ⟨_, hlen, hcell⟩ := World.cells?_some hc
        obtain ⟨f, hf⟩ := op_cells ht
        exact ⟨f, fun _ j hj => (hcell j (by omega)).trans (hf j hj)⟩
      · exact ⟨fun _ => 0, fun h => absurd h hil⟩
    obtain ⟨F, hF⟩ := Classical.axiomOfChoice hall
    refine ⟨F, fun h0 => ?_⟩
    obtain ⟨b, off, spot⟩ := a
    have hspot : spot = none := by
      have h1 := hF 0 h0 0 (by omega)
      have h2 : w.cell? ⟨b, off, spot⟩ = some (.int .i64 (F 0 0)) := by simpa [Addr.add] using h1
      exact World.cell?_spot h2
    subst hspot
    have ha : ∀ i j, ((⟨b, off, none⟩ : Addr).add (i * 4)).add j = ⟨b, off + i * 4 + j, none⟩ := by
      intro i j
      rw [Go.WideShapes.add_plain, Go.WideShapes.add_plain]
    have hc : ∀ i, i < len → ∀ j, j < 4 → w.cell? ⟨b, off + i * 4 + j, none⟩ = some (.int .i64 (F i j)) := fun i hil j hj => by
      have h1 := hF i hil j hj
      rw [ha] at h1
      exact h1
    exact ⟨b, off, rfl, World.block_lt_of_cell? w _ (hc 0 h0 0 (by omega)), hc⟩
end
end Go.Proofs.YtlinolgbpnokcaaGreatDoor.Dr
