/- The law DirEdges: its walk. -/
import Derived.Test.YthekmakdbkdmdaaDoorDirAlive
namespace Go.Proofs.YthekmakdbkdmdaaDoor.Dr
open Go.RowKit Go.Proofs.YthekmakdbkdmdaaDoor.Mem Go.Proofs.YthekmakdbkdmdaaDoor.Pg

set_option maxRecDepth 100000 in
set_option maxHeartbeats 4000000 in
theorem edges_any (n : Int) (w : World) :
    Calls Tryd.prog 6 #[.int .i64 n] w fun e w' => e = .returned (.bool true) ∧ Below w.heap.size w w' := by
  have hal' := fun w => alive_any w
  by_cases hm : mayP n
  · have hm1 : 2 ≤ n := hm.1
    have hm2 : n < 64 := hm.2
    have hgood := Good.one n hm
    have hnew := good_new n hm
    have hha := good_halve_no hgood (by simp)
    have hat0 := good_at hgood 0 (by simp)
    have hat1 := good_at_no hgood 1 (.inr (by simp))
    have hs1 := good_set_no hgood 0 0 1 (fun h => by have := h.2.2.2.2.1; omega)
    have hs2 := good_set_no hgood 0 1 5 (fun h => by have := h.2.1; omega)
    have hdep := good_depth hgood
    change ∀ w, Calls _ _ _ w fun e w' => e = .returned (.tuple #[.int .i64 n, .bool true]) ∧ Below w.heap.size w w' at hat0
    generalize bdy [n] = S0 at *
    clear hgood
    go_enter Tryd.func6, Tryd.ntmps6
    go_wp2_with fail
    refine (hal' _).mono ?_
    rintro e w1 ⟨rfl, hb1⟩
    have b1 : Below w.heap.size w w1 := hb1
    clear hb1
    go_wp2_with fail
    refine (hnew _).mono ?_
    rintro e w2 ⟨rfl, hb2⟩
    have b2 : Below w.heap.size w w2 := below_base (by first | exact b1 | exact below_al b1 _ | exact below_al (below_al b1 _) _) (by have := b1.size; simp; omega) hb2
    clear hb2 b1
    go_wp2_with fail
    refine (hha _).mono ?_
    rintro e w3 ⟨rfl, hb3⟩
    have k3 : w3.heap[w2.heap.size]? = some (.cells #[.int .i64 1, .int .i64 0, .int .i64 0, .string S0] 24 (0, 0)) := blk_below hb3
    have b3 : Below w.heap.size w w3 := below_base (by first | exact b2 | exact below_al b2 _ | exact below_al (below_al b2 _) _) (by have := b2.size; simp; omega) hb3
    clear hb3 b2
    have c3 := blk_cell k3
    have z3 := lt_of_block k3
    go_wp2_with fail
    refine (hat0 _).mono ?_
    rintro e w4 ⟨rfl, hb4⟩
    have k4 : w4.heap[w2.heap.size]? = some (.cells #[.int .i64 1, .int .i64 0, .int .i64 0, .string S0] 24 (0, 0)) := blk_keep (by first | exact k3 | exact hal k3 | exact hal (hal k3)) hb4
    have b4 : Below w.heap.size w w4 := below_base (by first | exact b3 | exact below_al b3 _ | exact below_al (below_al b3 _) _) (by have := b3.size; simp; omega) hb4
    clear hb4 b3 k3 c3 z3
    have c4 := blk_cell k4
    have z4 := lt_of_block k4
    go_wp2_with fail
    refine (hat1 _).mono ?_
    rintro e w5 ⟨rfl, hb5⟩
    have k5 : w5.heap[w2.heap.size]? = some (.cells #[.int .i64 1, .int .i64 0, .int .i64 0, .string S0] 24 (0, 0)) := blk_keep (by first | exact k4 | exact hal k4 | exact hal (hal k4)) hb5
    have b5 : Below w.heap.size w w5 := below_base (by first | exact b4 | exact below_al b4 _ | exact below_al (below_al b4 _) _) (by have := b4.size; simp; omega) hb5
    clear hb5 b4 k4 c4 z4
    have c5 := blk_cell k5
    have z5 := lt_of_block k5
    go_wp2_with fail
    refine (hs1 _).mono ?_
    rintro e w6 ⟨rfl, hb6⟩
    have k6 : w6.heap[w2.heap.size]? = some (.cells #[.int .i64 1, .int .i64 0, .int .i64 0, .string S0] 24 (0, 0)) := blk_keep (by first | exact k5 | exact hal k5 | exact hal (hal k5)) hb6
    have b6 : Below w.heap.size w w6 := below_base (by first | exact b5 | exact below_al b5 _ | exact below_al (below_al b5 _) _) (by have := b5.size; simp; omega) hb6
    clear hb6 b5 k5 c5 z5
    have c6 := blk_cell k6
    have z6 := lt_of_block k6
    go_wp2_with fail
    refine (hs2 _).mono ?_
    rintro e w7 ⟨rfl, hb7⟩
    have k7 : w7.heap[w2.heap.size]? = some (.cells #[.int .i64 1, .int .i64 0, .int .i64 0, .string S0] 24 (0, 0)) := blk_keep (by first | exact k6 | exact hal k6 | exact hal (hal k6)) hb7
    have b7 : Below w.heap.size w w7 := below_base (by first | exact b6 | exact below_al b6 _ | exact below_al (below_al b6 _) _) (by have := b6.size; simp; omega) hb7
    clear hb7 b6 k6 c6 z6
    have c7 := blk_cell k7
    have z7 := lt_of_block k7
    go_wp2_with fail
    refine (hdep _).mono ?_
    rintro e w8 ⟨rfl, hb8⟩
    have k8 : w8.heap[w2.heap.size]? = some (.cells #[.int .i64 1, .int .i64 0, .int .i64 0, .string S0] 24 (0, 0)) := blk_keep (by first | exact k7 | exact hal k7 | exact hal (hal k7)) hb8
    have b8 : Below w.heap.size w w8 := below_base (by first | exact b7 | exact below_al b7 _ | exact below_al (below_al b7 _) _) (by have := b7.size; simp; omega) hb8
    clear hb8 b7 k7 c7 z7
    have c8 := blk_cell k8
    have z8 := lt_of_block k8
    go_wp2
    go_ret
    exact ⟨rfl, b8⟩
  · have hnew := new_no n
    have hnew := fun w => hnew w hm
    have hha := zero_halve
    have hat0 := zero_at 0
    have hat1 := zero_at 1
    have hdep := zero_depth
    have hall := zero_all
    go_enter Tryd.func6, Tryd.ntmps6
    by_cases hm2 : 2 ≤ n
    · have hm3 : ¬ n < 64 := fun h => hm ⟨hm2, h⟩
      have hm4 : 64 ≤ n := by omega
      have hm5 : decide (n < 64) = false := decide_eq_false hm3
      go_wp2_with fail
      refine (hal' _).mono ?_
      rintro e w1 ⟨rfl, hb1⟩
      have b1 : Below w.heap.size w w1 := hb1
      clear hb1
      go_wp2_with fail
      refine (hnew _).mono ?_
      rintro e w2 ⟨rfl, hb2⟩
      have b2 : Below w.heap.size w w2 := below_base (by first | exact b1 | exact below_al b1 _ | exact below_al (below_al b1 _) _) (by have := b1.size; simp; omega) hb2
      clear hb2 b1
      go_wp2_with fail
      refine (hha _).mono ?_
      rintro e w3 ⟨rfl, hb3⟩
      have k3 : w3.heap[w2.heap.size]? = some (.cells #[.int .i64 0, .int .i64 0, .int .i64 0, .string ⟨#[]⟩] 24 (0, 0)) := blk_below hb3
      have b3 : Below w.heap.size w w3 := below_base (by first | exact b2 | exact below_al b2 _ | exact below_al (below_al b2 _) _) (by have := b2.size; simp; omega) hb3
      clear hb3 b2
      have c3 := blk_cell k3
      have z3 := lt_of_block k3
      go_wp2_with fail
      refine (hat0 _).mono ?_
      rintro e w4 ⟨rfl, hb4⟩
      have k4 : w4.heap[w2.heap.size]? = some (.cells #[.int .i64 0, .int .i64 0, .int .i64 0, .string ⟨#[]⟩] 24 (0, 0)) := blk_keep (by first | exact k3 | exact hal k3 | exact hal (hal k3)) hb4
      have b4 : Below w.heap.size w w4 := below_base (by first | exact b3 | exact below_al b3 _ | exact below_al (below_al b3 _) _) (by have := b3.size; simp; omega) hb4
      clear hb4 b3 k3 c3 z3
      have c4 := blk_cell k4
      have z4 := lt_of_block k4
      go_wp2_with fail
      refine (hat1 _).mono ?_
      rintro e w5 ⟨rfl, hb5⟩
      have k5 : w5.heap[w2.heap.size]? = some (.cells #[.int .i64 0, .int .i64 0, .int .i64 0, .string ⟨#[]⟩] 24 (0, 0)) := blk_keep (by first | exact k4 | exact hal k4 | exact hal (hal k4)) hb5
      have b5 : Below w.heap.size w w5 := below_base (by first | exact b4 | exact below_al b4 _ | exact below_al (below_al b4 _) _) (by have := b4.size; simp; omega) hb5
      clear hb5 b4 k4 c4 z4
      have c5 := blk_cell k5
      have z5 := lt_of_block k5
      go_wp2_with fail
      refine (hdep _).mono ?_
      rintro e w6 ⟨rfl, hb6⟩
      have k6 : w6.heap[w2.heap.size]? = some (.cells #[.int .i64 0, .int .i64 0, .int .i64 0, .string ⟨#[]⟩] 24 (0, 0)) := blk_keep (by first | exact k5 | exact hal k5 | exact hal (hal k5)) hb6
      have b6 : Below w.heap.size w w6 := below_base (by first | exact b5 | exact below_al b5 _ | exact below_al (below_al b5 _) _) (by have := b5.size; simp; omega) hb6
      clear hb6 b5 k5 c5 z5
      have c6 := blk_cell k6
      have z6 := lt_of_block k6
      go_wp2_with fail
      refine (hall _).mono ?_
      rintro e w7 ⟨rfl, hb7⟩
      have k7 : w7.heap[w2.heap.size]? = some (.cells #[.int .i64 0, .int .i64 0, .int .i64 0, .string ⟨#[]⟩] 24 (0, 0)) := blk_keep (by first | exact k6 | exact hal k6 | exact hal (hal k6)) hb7
      have b7 : Below w.heap.size w w7 := below_base (by first | exact b6 | exact below_al b6 _ | exact below_al (below_al b6 _) _) (by have := b6.size; simp; omega) hb7
      clear hb7 b6 k6 c6 z6
      have c7 := blk_cell k7
      have z7 := lt_of_block k7
      go_wp2
      go_ret
      exact ⟨rfl, b7⟩
    · go_wp2_with fail
      refine (hal' _).mono ?_
      rintro e w1 ⟨rfl, hb1⟩
      have b1 : Below w.heap.size w w1 := hb1
      clear hb1
      go_wp2_with fail
      refine (hnew _).mono ?_
      rintro e w2 ⟨rfl, hb2⟩
      have b2 : Below w.heap.size w w2 := below_base (by first | exact b1 | exact below_al b1 _ | exact below_al (below_al b1 _) _) (by have := b1.size; simp; omega) hb2
      clear hb2 b1
      go_wp2_with fail
      refine (hha _).mono ?_
      rintro e w3 ⟨rfl, hb3⟩
      have k3 : w3.heap[w2.heap.size]? = some (.cells #[.int .i64 0, .int .i64 0, .int .i64 0, .string ⟨#[]⟩] 24 (0, 0)) := blk_below hb3
      have b3 : Below w.heap.size w w3 := below_base (by first | exact b2 | exact below_al b2 _ | exact below_al (below_al b2 _) _) (by have := b2.size; simp; omega) hb3
      clear hb3 b2
      have c3 := blk_cell k3
      have z3 := lt_of_block k3
      go_wp2_with fail
      refine (hat0 _).mono ?_
      rintro e w4 ⟨rfl, hb4⟩
      have k4 : w4.heap[w2.heap.size]? = some (.cells #[.int .i64 0, .int .i64 0, .int .i64 0, .string ⟨#[]⟩] 24 (0, 0)) := blk_keep (by first | exact k3 | exact hal k3 | exact hal (hal k3)) hb4
      have b4 : Below w.heap.size w w4 := below_base (by first | exact b3 | exact below_al b3 _ | exact below_al (below_al b3 _) _) (by have := b3.size; simp; omega) hb4
      clear hb4 b3 k3 c3 z3
      have c4 := blk_cell k4
      have z4 := lt_of_block k4
      go_wp2_with fail
      refine (hat1 _).mono ?_
      rintro e w5 ⟨rfl, hb5⟩
      have k5 : w5.heap[w2.heap.size]? = some (.cells #[.int .i64 0, .int .i64 0, .int .i64 0, .string ⟨#[]⟩] 24 (0, 0)) := blk_keep (by first | exact k4 | exact hal k4 | exact hal (hal k4)) hb5
      have b5 : Below w.heap.size w w5 := below_base (by first | exact b4 | exact below_al b4 _ | exact below_al (below_al b4 _) _) (by have := b4.size; simp; omega) hb5
      clear hb5 b4 k4 c4 z4
      have c5 := blk_cell k5
      have z5 := lt_of_block k5
      go_wp2_with fail
      refine (hdep _).mono ?_
      rintro e w6 ⟨rfl, hb6⟩
      have k6 : w6.heap[w2.heap.size]? = some (.cells #[.int .i64 0, .int .i64 0, .int .i64 0, .string ⟨#[]⟩] 24 (0, 0)) := blk_keep (by first | exact k5 | exact hal k5 | exact hal (hal k5)) hb6
      have b6 : Below w.heap.size w w6 := below_base (by first | exact b5 | exact below_al b5 _ | exact below_al (below_al b5 _) _) (by have := b5.size; simp; omega) hb6
      clear hb6 b5 k5 c5 z5
      have c6 := blk_cell k6
      have z6 := lt_of_block k6
      go_wp2_with fail
      refine (hall _).mono ?_
      rintro e w7 ⟨rfl, hb7⟩
      have k7 : w7.heap[w2.heap.size]? = some (.cells #[.int .i64 0, .int .i64 0, .int .i64 0, .string ⟨#[]⟩] 24 (0, 0)) := blk_keep (by first | exact k6 | exact hal k6 | exact hal (hal k6)) hb7
      have b7 : Below w.heap.size w w7 := below_base (by first | exact b6 | exact below_al b6 _ | exact below_al (below_al b6 _) _) (by have := b6.size; simp; omega) hb7
      clear hb7 b6 k6 c6 z6
      have c7 := blk_cell k7
      have z7 := lt_of_block k7
      go_wp2
      go_ret
      exact ⟨rfl, b7⟩
end Go.Proofs.YthekmakdbkdmdaaDoor.Dr
