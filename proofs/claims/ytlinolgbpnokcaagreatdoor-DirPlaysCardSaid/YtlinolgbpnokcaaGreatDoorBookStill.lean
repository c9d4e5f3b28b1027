/- The contract of the book's stillInts. -/
import Derived.Test.YtlinolgbpnokcaaGreatDoorBookBase
import Derived.Test.YtlinolgbpnokcaaGreatDoorSameInts
import Derived.StillTailTactics
namespace Go.Proofs.YtlinolgbpnokcaaGreatDoor.Bk
open Go.RowKit Go.Proofs.YtlinolgbpnokcaaGreatDoor.Mem

theorem Book.below {B pb n : Nat} {w w' : World} {o : Nat → Nat} {V U : Nat → Value} {X : Nat → List Int} {vI vW : Value} (hk : Book B pb n w o V U X vI vW) (h : Below w.heap.size w w') : Book B pb n w' o V U X vI vW :=
  ⟨hk.hB, blk_keep hk.blk h, own_below hk.rI h, own_below hk.rW h, fun i hi => own_below (hk.rv i hi) h, fun i hi => own_below (hk.ru i hi) h, hk.tp, hk.tI, hk.tW, hk.tv, hk.tu⟩
theorem Book.drew {B pb n : Nat} {w : World} {o : Nat → Nat} {V U : Nat → Value} {X : Nat → List Int} {vI vW : Value} (hk : Book B pb n w o V U X vI vW) (m : Nat) : Book B pb n (w.drewN m) o V U X vI vW :=
  hk.below (below_drN (Below.refl _ w) m)
/-- A row as it is read. -/
theorem row_ints {w : World} {base : Nat} {e : TypeId} {v : Value} {xs : List Int} (h : w.ownsRow base e 1 v xs.length (ints xs)) : ∃ A c, v = .slice A xs.length c ∧ Ints w A xs.length xs := ints_of_own h
theorem hdr_at {w : World} {base n g cap : Nat} {e : TypeId} {V : Nat → Value} (h : w.ownsRow base e 1 (.slice (some ⟨g, 0, none⟩) n cap) n (hdr V n)) (i : Nat) (hi : i < n) : w.cell? ⟨g, i, none⟩ = some (V i) :=
  own_at h i _ (hdr_get V n i hi)

set_option maxRecDepth 100000 in
set_option maxHeartbeats 1000000 in
theorem still_any {B pb n : Nat} {w : World} {o : Nat → Nat} {V U : Nat → Value} {X : Nat → List Int} {vI vW : Value} (hk : Book B pb n w o V U X vI vW) (hn : n ≤ 250) :
    Calls Tryz.prog 28 #[.pointer (some ⟨pb, 0, none⟩)] w fun e w' => e = .returned (.bool true) ∧ Below w.heap.size w w' := by
  have Hk := Lib.hid hk
  clear hk
  go_enter Tryz.func28, Tryz.ntmps28
  go_wp2
  go_loopw [3] (fun i wr => ∃ j : Nat, i = .int .i64 j ∧ j ≤ n ∧ Below w.heap.size w wr) (fun i _ => n - (intOf i).toNat)
  case atStart => exact ⟨0, rfl, by omega, Below.refl _ _⟩
  case round =>
    obtain ⟨j, rfl, hj, hbel⟩ := hrel
    have hk := Hk.out.below hbel
    have c1 := blk_cell hk.blk
    have z1 := lt_of_block hk.blk
    obtain ⟨aI, cI, hvI⟩ := own_slice hk.rI
    obtain ⟨aW, cW, hvW⟩ := own_slice hk.rW
    have rI := hk.rI
    have rW := hk.rW
    by_cases hlt : j < n
    · obtain ⟨gI, cI', hI', _, hgI⟩ := rI.form (by omega)
      obtain ⟨gW, cW', hW', _, hgW⟩ := rW.form (by omega)
      rw [hI'] at c1 rI
      rw [hW'] at c1 rW
      have d1 := hdr_at rI j hlt
      have d2 := hdr_at rW j hlt
      obtain ⟨A1, k1, e1, x1⟩ := row_ints (hk.rv j hlt)
      obtain ⟨A2, k2, e2, x2⟩ := row_ints (hk.ru j hlt)
      rw [e1] at d1
      rw [e2] at d2
      have i1 : IntKind.i64.wrap ((j : Int) + 1) = (j : Int) + 1 := IntWalk.i64_in _ (by omega)
      clear hk rI rW hvI hvW
      go_wp2
      have y1 := x1.below (below_dr (Below.refl _ wr))
      have y2 := x2.below (below_dr (Below.refl _ wr))
      have hb2 := below_dr hbel
      go_still_tail 14, (by kernel_rfl)
      change wpList _ _ _ _ _ wr.drew
      generalize wr.drew = w2 at *
      go_wp2_with fail
      refine (sameInts_any _ _ _ _ _ _ _ _ _ y1 y2).mono ?_
      rintro e w3 ⟨rfl, hb3⟩
      have b3 := below_base hb2 hb2.size hb3
      rw [decide_eq_true rfl]
      go_wp2
      go_roundw
      case rel => exact ⟨j + 1, by go_num, by omega, b3⟩
      case measure => simp [intOf]; omega
    · obtain rfl : j = n := by omega
      rw [hvI, hvW] at c1
      clear hk rI rW
      go_wp2
      go_ret
      exact ⟨rfl, hbel⟩
end Go.Proofs.YtlinolgbpnokcaaGreatDoor.Bk
