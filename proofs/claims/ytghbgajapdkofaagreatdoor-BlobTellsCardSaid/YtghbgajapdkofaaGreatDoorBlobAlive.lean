/- The first call whose answer the document fixes: chapter 11. -/
import Derived.Test.YtghbgajapdkofaaGreatDoorBlobPut
import Derived.Test.YtghbgajapdkofaaGreatDoorZeros
import Derived.Deep.RegionHeld
namespace Go.Proofs.YtghbgajapdkofaaGreatDoor.Bl
open Go.RowKit Go.Proofs.YtghbgajapdkofaaGreatDoor.Mem Go.Proofs.YtghbgajapdkofaaGreatDoor.Pg

theorem ints_lit (W : World) (xs : List Int) (e : TypeId) (h : xs.length ≤ 1000) (g : Nat) (hg : g = W.heap.size) : Ints (W.alloc (.cells (ints xs).toArray e)) (some ⟨g, 0, none⟩) xs.length xs := by
  subst hg
  refine ⟨rfl, by omega, fun h0 => ⟨W.heap.size, 0, rfl, by simp, fun j hj => ?_⟩⟩
  rw [Nat.zero_add, cell_of_row _ _ _ _ _ _ (heap_alloc_new W _)]
  simp [ints, List.getD_eq_getElem?_getD, List.getElem?_eq_getElem hj]
theorem putOk_alive : PutOk (zs 201) [5, 9] := by
  refine ⟨by decide, by rw [zs, List.length_replicate]; decide, fun i hi => ?_⟩
  match i, hi with
  | 0, _ => exact ⟨by decide, by decide, by decide⟩
  | 1, _ => exact ⟨by decide, by decide, by decide⟩

set_option maxRecDepth 100000 in
set_option maxHeartbeats 4000000 in
theorem alive_any (w : World) :
    Calls Tryz.prog 4 #[] w fun e w' => e = .returned (.bool true) ∧ Below w.heap.size w w' := by
  have hz := fun w => refZeros_any 201 w (by omega)
  have hput := fun w => put_any (zs 201) (some ⟨w.heap.size, 0, none⟩) 2 2 [5, 9] (w.alloc (.cells (ints [5, 9]).toArray 3)) (by simp [zs]) (ints_lit w [5, 9] _ (by decide) _ rfl) (Nat.le_refl _)
  have hp1 := fun w => blobPages_any 201 w (by omega)
  have hp2 := fun w => blobPages_any 40 w (by omega)
  go_enter Tryz.func4, Tryz.ntmps4
  go_wp2_with fail
  refine (hz _).mono ?_
  rintro e w1 ⟨rfl, hb1⟩
  go_wp2_with fail
  refine (hput _).mono ?_
  rintro e w2 (⟨_, v, rfl, hown, hb2⟩ | ⟨hno, _⟩)
  · obtain ⟨g, cap, rfl, hg, hgl⟩ := hown.form (by decide)
    have c0 := own_at hown 0 (.int .i64 5) (by rfl)
    have c2 := own_at hown 2 (.int .i64 9) (by rfl)
    have c6 := own_at hown 6 (.int .i64 0) (by rfl)
    have hbw := below_tr hb1 (below_base (below_al (Below.refl _ w1) _) (by simp) hb2)
    clear hz hput hown hb1 hb2
    go_wp2_with fail
    refine (hp1 _).mono ?_
    rintro e w3 ⟨rfl, rfl⟩
    go_wp2_with fail
    refine (hp2 _).mono ?_
    rintro e w4 ⟨rfl, rfl⟩
    go_wp2
    go_ret
    exact ⟨rfl, hbw⟩
  · exact absurd putOk_alive hno
end Go.Proofs.YtghbgajapdkofaaGreatDoor.Bl
