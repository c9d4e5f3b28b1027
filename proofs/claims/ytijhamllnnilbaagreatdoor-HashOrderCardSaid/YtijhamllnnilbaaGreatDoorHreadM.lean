/- A slice of texts, opened. -/
import Derived.Test.YtijhamllnnilbaaGreatDoorP01
import Derived.Test.YtijhamllnnilbaaGreatDoorChecked
import Derived.Deep.Strs
import Derived.ProofKit
namespace Go.Proofs.YtijhamllnnilbaaGreatDoor.Ha
open Go.RowKit Go.Proofs.YtijhamllnnilbaaGreatDoor.Mem Go.ChangeShapes Go.WideShapes Go.Deep
theorem c_str : Tryz.prog.cellsOf 9 = 1 := by kernel_rfl
theorem texts_of_trod {H : Type} {enc : TypeId × Value → H} {w : World} {base : Nat} {A : Option Addr} {len cap : Nat} {d : DataW H} {ps : List MemPlace} (h : DataW.Trod enc Tryz.prog w base (fun _ => true) true 22 (.slice A len cap) d ps) :
 ∃ Tx : Nat → ByteArray, len ≤ maxLen ∧ (∀ j, j < len → (Tx j).size ≤ maxLen) ∧ (0 < len → ∃ b off, A = some ⟨b, off, none⟩ ∧ b < w.heap.size ∧ ∀ j, j < len → w.cell? ⟨b, off + j, none⟩ = some (.string (Tx j))) := by
 obtain ⟨fuel, hf⟩ := h
 rcases open_strs Tryz.underlying22 Tryz.underlying9 c_str hf with ⟨hcs, _⟩ | ⟨a, l, c, m, Sx, hcs, _, hl, hcm, hm, _, hi⟩
 · simp [Value.cells] at hcs
   obtain ⟨rfl, rfl, rfl⟩ := hcs
   exact ⟨fun _ => ByteArray.empty, Nat.zero_le _, fun j hj => absurd hj (by omega), fun h0 => absurd h0 (by omega)⟩
 · simp [Value.cells] at hcs
   obtain ⟨rfl, rfl, rfl⟩ := hcs
   simp at hm
   refine ⟨Sx, Nat.le_trans hl hcm, fun j hj => (hi j (by omega)).2, fun h0 => ?_⟩
   obtain ⟨b, off, spot⟩ := a
   have hspot : spot = none := by
    have h1 := (hi 0 (by omega)).1
    have h2 : w.cell? ⟨b, off, spot⟩ = some (.string (Sx 0)) := by simpa [Addr.add] using h1
    exact World.cell?_spot h2
   subst hspot
   have hc : ∀ i, i < len → w.cell? ⟨b, off + i, none⟩ = some (.string (Sx i)) := fun i hil => by
    have h1 := (hi i (by omega)).1
    rw [Go.WideShapes.add_plain] at h1
    exact h1
   refine ⟨b, off, rfl, ?_, hc⟩
   rcases Nat.lt_or_ge b w.heap.size with h | h
   · exact h
   · exfalso
     have h1 := hc 0 h0
     rw [World.cell?] at h1
     simp [Array.getElem?_eq_none h] at h1
end Go.Proofs.YtijhamllnnilbaaGreatDoor.Ha
