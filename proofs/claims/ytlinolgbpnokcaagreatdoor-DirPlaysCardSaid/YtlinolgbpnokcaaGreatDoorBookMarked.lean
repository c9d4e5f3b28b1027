/- The contract of the book's markedInts. -/
import Derived.Test.YtlinolgbpnokcaaGreatDoorBookGrow
namespace Go.Proofs.YtlinolgbpnokcaaGreatDoor.Bk
open Go.RowKit Go.Proofs.YtlinolgbpnokcaaGreatDoor.Mem

set_option maxRecDepth 100000 in
set_option maxHeartbeats 4000000 in
theorem marked_any {B n : Nat} {w : World} {V : Nat → Value} {L : Nat → Nat} {v : Value} (hr : w.ownsRow B 29 1 v n (hdr V n)) (hv : ∀ i, i < n → Rd w (V i) (mks i 0 (L i))) (hn : n ≤ 250) (hL : ∀ i, i < n → L i ≤ 2000000) :
    Calls Tryz.prog 55 #[v] w fun e w' => e = .returned (.bool true) ∧ Below w.heap.size w w' := by
  obtain ⟨A, c, rfl⟩ := own_slice hr
  have Hr := Lib.hid hr
  have Hv := Lib.hid hv
  clear hr hv
  go_enter Tryz.func55, Tryz.ntmps55
  go_wp2
  go_loopw [3] (fun i wr => ∃ j : Nat, i = .int .i64 j ∧ j ≤ n ∧ Below w.heap.size w wr) (fun i _ => n - (intOf i).toNat)
  case atStart => exact ⟨0, rfl, by omega, Below.refl _ _⟩
  case round =>
    obtain ⟨j, rfl, hj, hbel⟩ := hrel
    by_cases hlt : j < n
    · have hr := own_below Hr.out hbel
      obtain ⟨g, cap, he, _, hg⟩ := hr.form (by omega)
      injection he with e1 _ e2
      subst e1
      subst e2
      have d1 := hdr_at hr j hlt
      obtain ⟨A1, k1, e1, x1⟩ := ((Hv.out j hlt).below hbel).ints
      rw [e1] at d1
      rw [mks_len] at d1 x1
      have hLj := hL j hlt
      have i1 : IntKind.i64.wrap ((j : Int) + 1) = (j : Int) + 1 := IntWalk.i64_in _ (by omega)
      have hmk := Lib.hid (mark_any j 0 (L j))
      clear hr
      go_wp2_with fail
      have yw := x1.below (below_drN (Below.refl _ wr) 1)
      have hbw := below_drN hbel 1
      go_region_law (first
        | (go_simp; go_at_call 77; refine (hmk.out _ (by omega) (by omega)).mono ?_; rintro e w3 ⟨vm, rfl, hm, hb3⟩; obtain ⟨Am, cm, em, xm⟩ := ints_of_own hm; subst em; have d3 := (hb3.cell (p := ⟨g, j, none⟩) hg).trans d1; have y3 := yw.below hb3; have b3 := below_base hbw hbw.size hb3)
        | (go_simp; go_at_call 10; refine (sameInts_any _ _ _ _ _ _ _ _ _ y3 xm).mono ?_; rintro e w4 ⟨rfl, hb4⟩; have b4 := below_base b3 b3.size hb4; rw [decide_eq_true rfl]))
      all_goals go_wp2
      all_goals exact ⟨⟨j + 1, by simp, by omega, b4⟩, by simp only [intOf]; omega⟩
    · obtain rfl : j = n := by omega
      go_wp2
      go_ret
      exact ⟨rfl, hbel⟩
end Go.Proofs.YtlinolgbpnokcaaGreatDoor.Bk
