/- A slice of ints, opened. -/
import Derived.Test.YtijhamllnnilbaaGreatDoorP01
import Derived.Test.YtijhamllnnilbaaGreatDoorChecked
import Derived.ProofKit
import Derived.OpenShut
import Derived.Deep.Slices
import Derived.Deep.Fields
namespace Go.Proofs.YtijhamllnnilbaaGreatDoor.Ha
open Go.RowKit Go.Proofs.YtijhamllnnilbaaGreatDoor.Mem Go.ChangeShapes Go.WideShapes Go.Deep
theorem c_int : Tryz.prog.cellsOf 3 = 1 := by kernel_rfl
section
variable {H : Type} {enc : TypeId × Value → H} {w : World} {base : Nat}
theorem ints_of_trod {A : Option Addr} {len cap : Nat} {d : DataW H} {ps : List MemPlace} (h : DataW.Trod enc Tryz.prog w base (fun _ => true) true 45 (.slice A len cap) d ps) : ∃ xs : List Int, xs.length = len ∧ (len ≤ 1000 → Ints w A len xs) := by
 obtain ⟨fuel, hf⟩ := h
 rcases open_slice Tryz.underlying45 hf with ⟨hcs, _⟩ | ⟨a, l, c, m, n, D, Pl, hcs, _, hl, _, hm, _, hi⟩
 · simp [Value.cells] at hcs
   obtain ⟨rfl, rfl, rfl⟩ := hcs
   exact ⟨[], rfl, fun _ => ⟨rfl, by omega, fun h0 => absurd h0 (by omega)⟩⟩
 · simp [Value.cells] at hcs
   obtain ⟨rfl, rfl, rfl⟩ := hcs
   simp at hm
   have hall : ∀ i, ∃ k : Int, i < len → w.cell? (a.add (i * 1)) = some (.int .i64 k) := by
    intro i
    by_cases hil : i < len
    · obtain ⟨cs', hc, ht⟩ := hi i (by omega)
      rw [c_int] at hc
      obtain ⟨_, hlen, hcell⟩ := World.cells?_some hc
      obtain ⟨k, h0, _⟩ := DataW.trod_int Tryz.underlying3 ht
      have h1 := hcell 0 (by omega)
      rw [h0] at h1
      exact ⟨k, fun _ => by simpa [Addr.add] using h1⟩
    · exact ⟨0, fun h => absurd h hil⟩
   obtain ⟨f, hf'⟩ := Classical.axiomOfChoice hall
   refine ⟨(List.range len).map f, by simp, fun hle => ⟨by simp, by omega, fun h0 => ?_⟩⟩
   obtain ⟨b, off, spot⟩ := a
   have hspot : spot = none := by
    have h1 := hf' 0 h0
    have h2 : w.cell? ⟨b, off, spot⟩ = some (.int .i64 (f 0)) := by simpa [Addr.add] using h1
    exact World.cell?_spot h2
   subst hspot
   have hc : ∀ i, i < len → w.cell? ⟨b, off + i, none⟩ = some (.int .i64 (f i)) := fun i hil => by
    have h1 := hf' i hil
    rw [Go.WideShapes.add_plain, Nat.mul_one] at h1
    exact h1
   refine ⟨b, off, rfl, ?_, fun i hi => ?_⟩
   · rcases Nat.lt_or_ge b w.heap.size with h | h
     · exact h
     · exfalso
       have h1 := hc 0 h0
       rw [World.cell?] at h1
       simp [Array.getElem?_eq_none h] at h1
   · rw [hc i hi]
     simp [List.getD_eq_getElem?_getD, List.getElem?_map, List.getElem?_range hi]
end
end Go.Proofs.YtijhamllnnilbaaGreatDoor.Ha
