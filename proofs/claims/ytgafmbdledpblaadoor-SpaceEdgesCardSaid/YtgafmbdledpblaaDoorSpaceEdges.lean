/- The walk of SpaceEdges: for every n the law returns true. -/
import Derived.Test.YtgafmbdledpblaaDoorSpaceAlive
namespace Go.Proofs.YtgafmbdledpblaaDoor.Sp
open Go.RowKit Go.Proofs.YtgafmbdledpblaaDoor.Mem Go.Proofs.YtgafmbdledpblaaDoor.Pg

theorem count_new (n : Nat) (h2 : 2 ≤ n) (h64 : n ≤ 64) : ((newL n).take n).count 2 = n - 2 := by
  have key : ∀ m, m ≤ n → ((newL n).take m).count 2 = m - 2 := by
    intro m
    induction m with
    | zero => intro _; rfl
    | succ m ih =>
      intro hm
      have hl : m < (newL n).length := by rw [newL_len]; omega
      rw [List.take_succ_eq_append_getElem hl, List.count_append, ih (by omega)]
      have hb := bt_newL n (by omega) m
      rw [if_pos (by omega)] at hb
      by_cases h : m < 2
      · rw [if_pos h] at hb
        rw [(bt_eq _ m hl 1).1 hb]
        simp
        omega
      · rw [if_neg h] at hb
        rw [(bt_eq _ m hl 2).1 hb]
        simp
        omega
  exact key n (by omega)

set_option maxRecDepth 100000 in
set_option maxHeartbeats 4000000 in
theorem edges_any (n : Int) (w : World) : Calls Tryd.prog 8 #[.int .i64 n] w fun e w' => e = .returned (.bool true) ∧ Below w.heap.size w w' := by
  have ha := fun w => alive_any w
  by_cases hn : 8 ≤ n ∧ n ≤ 64
  · obtain ⟨m, rfl⟩ : ∃ m : Nat, n = m := ⟨n.toNat, by omega⟩
    have hm := isMap_new m (by omega) (by omega)
    have hnew := fun w => new_ok m w (by omega) (by omega)
    have hp := pagesF_map hm
    have hl := newL_len m
    have hg0 := fun w => give_arg 2 0 0 0 (newL m) w (by omega) (by omega) (.inl (by omega))
    have hg1 := fun w => give_arg 2 0 0 1 (newL m) w (by omega) (by omega) (.inl (by omega))
    have hg2 := fun w => give_arg 2 0 0 2 (newL m) w (by omega) (by omega) (.inr (usedF_map_false hm 2 (by rw [bt_newL m (by omega), if_pos (by omega)]; decide)))
    have hfr := fun w => free_any 2 0 0 (newL m) w (by omega)
    rw [hp, count_new m (by omega) (by omega)] at hfr
    have hu1 := fun w => used_any 2 0 0 1 (newL m) w (by omega)
    have hun := fun w => used_any 2 0 0 m (newL m) w (by omega)
    rw [show usedF 2 (newL m) 1 = true from (usedF_map hm 1).2 ⟨by omega, by omega, hm.b1⟩] at hu1
    rw [show usedF 2 (newL m) m = false from usedF_map_false hm m (by rw [hm.past m (Nat.le_refl _)]; decide)] at hun
    have d8 : decide (8 ≤ (m : Int)) = true := by simp; omega
    have d64 : decide ((m : Int) ≤ 64) = true := by simp; omega
    have hsub : IntKind.i64.wrap ((m : Int) - 2) = ((m - 2 : Nat) : Int) := by rw [IntWalk.i64_in _ (by omega)]; omega
    generalize str (newL m) = P at *
    clear hm hp hl
    have Hn := Lib.hid hn
    clear hn
    go_enter Tryd.func8, Tryd.ntmps8
    go_wp2_with fail
    refine (ha _).mono ?_
    rintro e w1 ⟨rfl, hb1⟩
    go_wp2_with fail
    refine (hnew _).mono ?_
    rintro e w2 ⟨rfl, hb2⟩
    have hbw2 := below_tr hb1 hb2
    clear hb1 hb2
    go_wp2_with fail
    refine (hg0 _).mono ?_
    rintro e w3 ⟨rfl, hb3⟩
    have blp3 := blk_keep (heap_alloc_new w2 _) hb3
    have hbw3 := below_tr (below_al hbw2 _) hb3
    clear hbw2 hb3
    have hcp3 := blk_cell blp3
    have hzp3 := lt_of_block blp3
    go_wp2_with fail
    refine (hg1 _).mono ?_
    rintro e w4 ⟨rfl, hb4⟩
    have blp4 := blk_keep (hal blp3) hb4
    have hbw4 := below_tr (below_al hbw3 _) hb4
    clear blp3 hcp3 hzp3 hbw3 hb4
    have hcp4 := blk_cell blp4
    have hzp4 := lt_of_block blp4
    go_wp2_with fail
    refine (hg2 _).mono ?_
    rintro e w5 ⟨rfl, hb5⟩
    have blp5 := blk_keep (hal blp4) hb5
    have hbw5 := below_tr (below_al hbw4 _) hb5
    clear blp4 hcp4 hzp4 hbw4 hb5
    have hcp5 := blk_cell blp5
    have hzp5 := lt_of_block blp5
    go_wp2_with fail
    refine (hfr _).mono ?_
    rintro e w6 ⟨rfl, hb6⟩
    have blp6 := blk_keep (hal blp5) hb6
    have hbw6 := below_tr (below_al hbw5 _) hb6
    clear blp5 hcp5 hzp5 hbw5 hb6
    have hcp6 := blk_cell blp6
    have hzp6 := lt_of_block blp6
    go_wp2_with fail
    refine (hu1 _).mono ?_
    rintro e w7 ⟨rfl, hb7⟩
    have blp7 := blk_keep blp6 hb7
    have hbw7 := below_tr hbw6 hb7
    clear blp6 hcp6 hzp6 hbw6 hb7
    have hcp7 := blk_cell blp7
    have hzp7 := lt_of_block blp7
    go_wp2_with fail
    refine (hun _).mono ?_
    rintro e w8 ⟨rfl, hb8⟩
    have blp8 := blk_keep blp7 hb8
    have hbw8 := below_tr hbw7 hb8
    clear blp7 hcp7 hzp7 hbw7 hb8
    have hcp8 := blk_cell blp8
    have hzp8 := lt_of_block blp8
    go_wp2
    go_ret
    exact ⟨rfl, hbw8⟩
  · have hno := fun w => new_no n w (by omega)
    have hfr : ∀ w : World, _ := fun w => free_any 0 0 0 [] w (by decide)
    have hpg : ∀ w : World, _ := fun w => pages_any 0 0 0 [] w (by decide)
    have hus : ∀ w : World, _ := fun w => used_any 0 0 0 0 [] w (by decide)
    have z : pagesF 0 [] = 0 := rfl
    rw [z] at hfr hpg
    rw [show usedF 0 [] 0 = false from rfl] at hus
    rw [show (List.take 0 ([] : List UInt8)).count 2 = 0 from rfl] at hfr
    have zz : str [] = ⟨#[]⟩ := rfl
    rw [zz] at hfr hpg hus
    by_cases h8 : 8 ≤ n
    · have d8 : decide (8 ≤ n) = true := by simpa using h8
      have d64 : decide (n ≤ 64) = false := by simp; omega
      clear hn
      go_enter Tryd.func8, Tryd.ntmps8
      go_wp2_with fail
      refine (ha _).mono ?_
      rintro e w1 ⟨rfl, hb1⟩
      go_wp2_with fail
      refine (hno _).mono ?_
      rintro e w2 ⟨rfl, hb2⟩
      have hbw2 := below_tr hb1 hb2
      clear hb1 hb2
      go_wp2_with fail
      refine (hfr _).mono ?_
      rintro e w3 ⟨rfl, hb3⟩
      have blp3 := blk_keep (heap_alloc_new w2 _) hb3
      have hbw3 := below_tr (below_al hbw2 _) hb3
      clear hbw2 hb3
      have hcp3 := blk_cell blp3
      have hzp3 := lt_of_block blp3
      go_wp2_with fail
      refine (hpg _).mono ?_
      rintro e w4 ⟨rfl, hb4⟩
      have blp4 := blk_keep blp3 hb4
      have hbw4 := below_tr hbw3 hb4
      clear blp3 hcp3 hzp3 hbw3 hb4
      have hcp4 := blk_cell blp4
      have hzp4 := lt_of_block blp4
      go_wp2_with fail
      refine (hus _).mono ?_
      rintro e w5 ⟨rfl, hb5⟩
      have blp5 := blk_keep blp4 hb5
      have hbw5 := below_tr hbw4 hb5
      clear blp4 hcp4 hzp4 hbw4 hb5
      have hcp5 := blk_cell blp5
      have hzp5 := lt_of_block blp5
      go_wp2
      go_ret
      exact ⟨rfl, hbw5⟩
    · have d8 : decide (8 ≤ n) = false := by simpa using h8
      clear hn
      go_enter Tryd.func8, Tryd.ntmps8
      go_wp2_with fail
      refine (ha _).mono ?_
      rintro e w1 ⟨rfl, hb1⟩
      go_wp2_with fail
      refine (hno _).mono ?_
      rintro e w2 ⟨rfl, hb2⟩
      have hbw2 := below_tr hb1 hb2
      clear hb1 hb2
      go_wp2_with fail
      refine (hfr _).mono ?_
      rintro e w3 ⟨rfl, hb3⟩
      have blp3 := blk_keep (heap_alloc_new w2 _) hb3
      have hbw3 := below_tr (below_al hbw2 _) hb3
      clear hbw2 hb3
      have hcp3 := blk_cell blp3
      have hzp3 := lt_of_block blp3
      go_wp2_with fail
      refine (hpg _).mono ?_
      rintro e w4 ⟨rfl, hb4⟩
      have blp4 := blk_keep blp3 hb4
      have hbw4 := below_tr hbw3 hb4
      clear blp3 hcp3 hzp3 hbw3 hb4
      have hcp4 := blk_cell blp4
      have hzp4 := lt_of_block blp4
      go_wp2_with fail
      refine (hus _).mono ?_
      rintro e w5 ⟨rfl, hb5⟩
      have blp5 := blk_keep blp4 hb5
      have hbw5 := below_tr hbw4 hb5
      clear blp4 hcp4 hzp4 hbw4 hb5
      have hcp5 := blk_cell blp5
      have hzp5 := lt_of_block blp5
      go_wp2
      go_ret
      exact ⟨rfl, hbw5⟩
end Go.Proofs.YtgafmbdledpblaaDoor.Sp
