/- The first calls whose answers the document fixes: chapter 10. -/
import Derived.Test.YtlinolgbpnokcaaGreatDoorDirGood
import Derived.Test.YtlinolgbpnokcaaGreatDoorSameInts
import Derived.Deep.RegionHeld
namespace Go.Proofs.YtlinolgbpnokcaaGreatDoor.Dr
open Go.RowKit Go.Proofs.YtlinolgbpnokcaaGreatDoor.Mem Go.Proofs.YtlinolgbpnokcaaGreatDoor.Pg

theorem ints_lit (W : World) (xs : List Int) (e : TypeId) (h : xs.length ≤ 1000) (g : Nat) (hg : g = W.heap.size) : Ints (W.alloc (.cells (ints xs).toArray e)) (some ⟨g, 0, none⟩) xs.length xs := by
  subst hg
  refine ⟨rfl, by omega, fun h0 => ⟨W.heap.size, 0, rfl, by simp, fun j hj => ?_⟩⟩
  rw [Nat.zero_add, cell_of_row _ _ _ _ _ _ (heap_alloc_new W _)]
  simp [ints, List.getD_eq_getElem?_getD, List.getElem?_eq_getElem hj]
theorem ints_own {w : World} {base g n cap : Nat} {e : TypeId} {xs : List Int} (h : w.ownsRow base e 1 (.slice (some ⟨g, 0, none⟩) n cap) n (ints xs)) : Ints w (some ⟨g, 0, none⟩) n xs := by
  obtain ⟨A, c, hv, hI⟩ := ints_of_own h
  simp only [Value.slice.injEq] at hv
  obtain ⟨rfl, -, rfl⟩ := hv
  exact hI

theorem al_good0 : Good 0 0 [2] := Good.one 2 ⟨by decide, by decide⟩
theorem al_good1 : Good 1 1 [2, 2] := al_good0.twice (by decide) rfl
theorem al_good2 : Good 1 1 [2, 5] := al_good1.set (q := 2) (m := 2) (b := 1) (y := 5) ⟨by decide, by decide⟩

set_option maxRecDepth 100000 in
set_option maxHeartbeats 4000000 in
theorem alive_any (w : World) :
    Calls Tryz.prog 4 #[] w fun e w' => e = .returned (.bool true) ∧ Below w.heap.size w w' := by
  have hnew := good_new 2 ⟨by decide, by decide⟩
  have hdou := good_double al_good0 1 rfl (by decide)
  have hset := good_set al_good1 1 1 5 (by decide) (by decide) (by decide) ⟨by decide, by decide⟩
  have hat := good_at al_good2 1 (by decide)
  have hha := good_halve_no al_good2 (by decide)
  have hall := good_all al_good2 2 rfl
  have hdep := good_depth al_good2
  change ∀ w, Calls _ _ _ w fun e w' => e = .returned (.tuple #[.agg #[.int .i64 1, .int .i64 1, .int .i64 0, .string (bdy [2, 2])], .int .i64 0]) ∧ Below w.heap.size w w' at hdou
  change ∀ w, Calls _ _ _ w fun e w' => e = .returned (.tuple #[.agg #[.int .i64 1, .int .i64 1, .int .i64 0, .string (bdy [2, 5])], .int .i64 0]) ∧ Below w.heap.size w w' at hset
  change ∀ w, Calls _ _ _ w fun e w' => e = .returned (.tuple #[.int .i64 5, .bool true]) ∧ Below w.heap.size w w' at hat
  generalize bdy [2] = S0 at *
  generalize bdy [2, 2] = S1 at *
  generalize bdy [2, 5] = S2 at *
  go_enter Tryz.func4, Tryz.ntmps4
  go_wp2_with fail
  refine (hnew _).mono ?_
  rintro e w1 ⟨rfl, hb1⟩
  go_wp2_with fail
  refine (hdou _).mono ?_
  rintro e w2 ⟨rfl, hb2⟩
  have b2 := below_tr hb1 (below_box hb2)
  clear hb1 hb2
  go_wp2_with fail
  refine (hset _).mono ?_
  rintro e w3 ⟨rfl, hb3⟩
  have b3 := below_tr b2 (below_box hb3)
  clear b2 hb3
  go_wp2_with fail
  refine (hat _).mono ?_
  rintro e w4 ⟨rfl, hb4⟩
  have k4 := blk_below hb4
  have b4 := below_tr b3 (below_box hb4)
  clear b3 hb4
  have c4 := blk_cell k4
  have z4 := lt_of_block k4
  go_wp2_with fail
  refine (hha _).mono ?_
  rintro e w5 ⟨rfl, hb5⟩
  have k5 := blk_keep k4 hb5
  have b5 := below_tr b4 hb5
  clear b4 hb5 hnew hdou hset hat hha c4 z4 k4
  have c5 := blk_cell k5
  have z5 := lt_of_block k5
  go_wp2_with fail
  have k5' := hal (o := .cells #[.int .i64 0, .int .i64 0, .int .i64 0, .string ⟨#[]⟩] 23) k5
  have b5' := below_al b5 (.cells #[.int .i64 0, .int .i64 0, .int .i64 0, .string ⟨#[]⟩] 23)
  clear k5 b5 c5 z5
  generalize w5.alloc (.cells #[.int .i64 0, .int .i64 0, .int .i64 0, .string ⟨#[]⟩] 23) = v5 at *
  refine (hall _).mono ?_
  rintro e w6 ⟨g, cap, rfl, ho6, hg6, hb6⟩
  have k6 := blk_keep k5' hb6
  have b6 := below_tr b5' hb6
  clear k5' b5' hb6 hall
  have c6 := blk_cell k6
  have z6 := lt_of_block k6
  have I6 := ints_own (ho6.alloc (.cells (ints [2, 5]).toArray 3))
  have L6 := ints_lit w6 [2, 5] 3 (by decide) _ rfl
  have HS := Lib.hid (sameInts_any (some ⟨g, 0, none⟩) (some ⟨w6.heap.size, 0, none⟩) 2 2 cap 2 [2, 5] [2, 5] _ I6 L6)
  clear I6 L6 ho6
  go_wp2_with fail
  refine HS.out.mono ?_
  rintro e w7 ⟨rfl, hb7⟩
  have k7 := blk_keep (hal (o := .cells (ints [2, 5]).toArray 3) k6) hb7
  have b7 := below_tr b6 (below_box hb7)
  clear k6 b6 hb7 HS c6 z6
  have c7 := blk_cell k7
  have z7 := lt_of_block k7
  rw [decide_true]
  go_wp2_with fail
  refine (hdep _).mono ?_
  rintro e w8 ⟨rfl, hb8⟩
  have b8 := below_tr b7 hb8
  clear b7 hb8 k7 c7 z7
  go_wp2
  go_ret
  exact ⟨rfl, b8⟩
end Go.Proofs.YtlinolgbpnokcaaGreatDoor.Dr
