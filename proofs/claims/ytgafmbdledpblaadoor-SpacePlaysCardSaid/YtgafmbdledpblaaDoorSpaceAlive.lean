/- The contract of chapter 9's alive. -/
import Derived.Test.YtgafmbdledpblaaDoorSpaceMaps
import Derived.Test.YtgafmbdledpblaaDoorSpaceGive
namespace Go.Proofs.YtgafmbdledpblaaDoor.Sp
open Go.RowKit Go.Proofs.YtgafmbdledpblaaDoor.Mem Go.Proofs.YtgafmbdledpblaaDoor.Pg

set_option maxRecDepth 100000 in
set_option maxHeartbeats 4000000 in
theorem alive_any (w : World) : Calls Tryd.prog 9 #[] w fun e w' => e = .returned (.bool true) ∧ Below w.heap.size w w' := by
  have hm := isMap_new 8 (by omega) (by omega)
  have hm2 := hm.set 2 1 (by omega) (by omega) (.inl rfl)
  have hn := fun w => new_ok 8 w (by omega) (by omega)
  have ht := fun w => take_ok 2 0 0 (newL 8) w (by rw [newL_len]; omega) 2 (by kernel_rfl) (by rw [pagesF_map hm]; omega)
  have hfp := fun w => free_any 2 0 0 (newL 8) w (by rw [newL_len]; omega)
  have hfq := fun w => free_any 2 0 0 ((newL 8).set 2 1) w (by rw [List.length_set, newL_len]; omega)
  have hup := fun w => used_any 2 0 0 2 (newL 8) w (by rw [newL_len]; omega)
  have huq := fun w => used_any 2 0 0 2 ((newL 8).set 2 1) w (by rw [List.length_set, newL_len]; omega)
  have hpq := fun w => pages_any 2 0 0 ((newL 8).set 2 1) w (by rw [List.length_set, newL_len]; omega)
  rw [pagesF_map hm] at hfp
  rw [pagesF_map hm2] at hfq hpq
  rw [show ((newL 8).take 8).count 2 = 6 by kernel_rfl] at hfp
  rw [show (((newL 8).set 2 1).take 8).count 2 = 5 by kernel_rfl] at hfq
  rw [show usedF 2 (newL 8) 2 = false by kernel_rfl] at hup
  rw [show usedF 2 ((newL 8).set 2 1) 2 = true by kernel_rfl] at huq
  generalize str (newL 8) = P at hn ht hfp hup
  generalize str ((newL 8).set 2 1) = Q at ht hfq huq hpq
  clear hm hm2
  go_enter Tryd.func9, Tryd.ntmps9
  go_wp2_with fail
  refine (hn _).mono ?_
  rintro e w1 ⟨rfl, hb1⟩
  have hbw1 := hb1
  go_wp2_with fail
  refine (ht _).mono ?_
  rintro e w2 ⟨rfl, hb2⟩
  have blk2 := blk_below hb2
  have hbw2 := below_tr (below_al hbw1 _) hb2
  have hc2 := blk_cell blk2
  have hz2 := lt_of_block blk2
  have blk1 := blk_keep (heap_alloc_new w1 _) hb2
  have hc1 := blk_cell blk1
  have hz1 := lt_of_block blk1
  clear hb2 hbw1 hb1
  go_wp2_with fail
  refine (hfp _).mono ?_
  rintro e w3 ⟨rfl, hb3⟩
  have blp3 := blk_keep (hal blk1) hb3
  have blq3 := blk_keep (heap_alloc_new w2 _) hb3
  have hbw3 := below_tr (below_al hbw2 _) hb3
  clear blk1 blk2 hc1 hc2 hz1 hz2 hb3 hbw2
  have hcp3 := blk_cell blp3
  have hcq3 := blk_cell blq3
  go_wp2_with fail
  refine (hfq _).mono ?_
  rintro e w4 ⟨rfl, hb4⟩
  have blp4 := blk_keep blp3 hb4
  have blq4 := blk_keep blq3 hb4
  have hbw4 := below_tr hbw3 hb4
  clear blp3 blq3 hcp3 hcq3 hb4 hbw3
  have hcp4 := blk_cell blp4
  have hcq4 := blk_cell blq4
  go_wp2_with fail
  refine (huq _).mono ?_
  rintro e w5 ⟨rfl, hb5⟩
  have blp5 := blk_keep blp4 hb5
  have blq5 := blk_keep blq4 hb5
  have hbw5 := below_tr hbw4 hb5
  clear blp4 blq4 hcp4 hcq4 hb5 hbw4
  have hcp5 := blk_cell blp5
  have hcq5 := blk_cell blq5
  go_wp2_with fail
  refine (hup _).mono ?_
  rintro e w6 ⟨rfl, hb6⟩
  have blp6 := blk_keep blp5 hb6
  have blq6 := blk_keep blq5 hb6
  have hbw6 := below_tr hbw5 hb6
  clear blp5 blq5 hcp5 hcq5 hb6 hbw5
  have hcp6 := blk_cell blp6
  have hcq6 := blk_cell blq6
  go_wp2_with fail
  refine (hpq _).mono ?_
  rintro e w7 ⟨rfl, hb7⟩
  have blp7 := blk_keep blp6 hb7
  have blq7 := blk_keep blq6 hb7
  have hbw7 := below_tr hbw6 hb7
  clear blp6 blq6 hcp6 hcq6 hb7 hbw6
  have hcp7 := blk_cell blp7
  have hcq7 := blk_cell blq7
  go_wp2
  go_ret
  exact ⟨rfl, hbw7⟩
end Go.Proofs.YtgafmbdledpblaaDoor.Sp
