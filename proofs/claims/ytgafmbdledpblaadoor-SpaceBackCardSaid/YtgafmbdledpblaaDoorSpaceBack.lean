/- The walk of SpaceBack: a page that is taken, and given back, leaves the map as it was. -/
import Derived.Test.YtgafmbdledpblaaDoorSpaceSteps
namespace Go.Proofs.YtgafmbdledpblaaDoor.Sp
open Go.RowKit Go.Proofs.YtgafmbdledpblaaDoor.Mem Go.Proofs.YtgafmbdledpblaaDoor.Pg

set_option maxRecDepth 100000 in
set_option maxHeartbeats 4000000 in
theorem back_any (n : Int) (A : Option Addr) (len cap : Nat) (K N : Nat → Int) (w : World) (hops : Ops w A len K N) :
    Calls Tryd.prog 7 #[.int .i64 n, .slice A len cap] w fun e w' => e = .returned (.bool true) ∧ Below w.heap.size w w' := by
  have ha := fun w => alive_any w
  by_cases h8 : n < 8
  · have d8 : decide (n < 8) = true := by simpa using h8
    go_enter Tryd.func7, Tryd.ntmps7
    go_wp2_with fail
    refine (ha _).mono ?_
    rintro e w1 ⟨rfl, hb1⟩
    go_wp2
    go_ret
    exact ⟨rfl, hb1⟩
  have d8 : decide (n < 8) = false := by simpa using h8
  by_cases h64 : 64 < n
  · have d64 : decide (64 < n) = true := by simpa using h64
    go_enter Tryd.func7, Tryd.ntmps7
    go_wp2_with fail
    refine (ha _).mono ?_
    rintro e w1 ⟨rfl, hb1⟩
    go_wp2
    go_ret
    exact ⟨rfl, hb1⟩
  have d64 : decide (64 < n) = false := by simpa using h64
  by_cases h40 : 40 < len
  · have d40 : decide ((40 : Int) < (len : Int)) = true := by simp; omega
    go_enter Tryd.func7, Tryd.ntmps7
    go_wp2_with fail
    refine (ha _).mono ?_
    rintro e w1 ⟨rfl, hb1⟩
    go_wp2
    go_ret
    exact ⟨rfl, hb1⟩
  have d40 : decide ((40 : Int) < (len : Int)) = false := by simp; omega
  have d40' : decide (40 < len) = false := by simp; omega
  obtain ⟨m, rfl⟩ : ∃ m : Nat, n = m := ⟨n.toNat, by omega⟩
  have hm8 : 8 ≤ m := by omega
  have hm64 : m ≤ 64 := by omega
  have hnew := fun w => new_ok m w hm8 hm64
  have hs0 := Lib.hid (isMap_new m hm8 hm64)
  have Hops := Lib.hid hops
  have hlen40 : len ≤ 40 := by omega
  clear h8 h64 h40 hops
  go_enter Tryd.func7, Tryd.ntmps7
  go_wp2_with fail
  refine (ha _).mono ?_
  rintro e w1 ⟨rfl, hb1⟩
  go_wp2_with fail
  refine (hnew _).mono ?_
  rintro e w2 ⟨rfl, hb2⟩
  have hbw2 := below_tr hb1 hb2
  clear hb1 hb2
  go_wp2_with fail
  go_loopw [41] (fun i wr => ∃ (j : Nat) (l : List UInt8), i = .int .i64 j ∧ j ≤ len ∧ Hid (IsMap m l) ∧ Below w.heap.size w wr ∧ wr.heap[w2.heap.size]? = some (.cells #[.int .i64 2, .int .i64 0, .int .i64 0, .string (str l)] 23 (0, 0))) (fun i _ => len - (intOf i).toNat)
  case atStart => exact ⟨0, newL m, rfl, Nat.zero_le _, hs0, below_al hbw2 _, heap_alloc_new w2 _⟩
  case round =>
    obtain ⟨j, l, rfl, hj, hmap, hbel, blp0⟩ := hrel
    clear hs0 hnew
    have hcp0 := blk_cell blp0
    have hzp0 := lt_of_block blp0
    have hfp0 := blk_free blp0
    have hne : wr.heap.size ≠ w2.heap.size := by omega
    have hne2 : ¬ wr.heap.size = w2.heap.size := hne
    have hne3 : ¬ w2.heap.size = wr.heap.size := by omega
    by_cases hlt : j < len
    · obtain ⟨b, off, rfl, hbl, hcell⟩ := Hops.out (by omega)
      have hx0 := (hbel.cell (p := ⟨b, off + j * 2, none⟩) hbl).trans (hcell j hlt).1
      have hx1 := (hbel.cell (p := ⟨b, off + j * 2 + 1, none⟩) hbl).trans (hcell j hlt).2
      have hxl : b < wr.heap.size := Nat.lt_of_lt_of_le hbl hbel.size
      clear hcell Hops
      generalize K j = kj at *
      generalize N j = nj at *
      have hlt' : (j : Int) < (len : Int) := by omega
      rcases take_map hmap.out with ⟨_, _, htk⟩ | ⟨i, hi2, him, hbi, _, hmap2, htk⟩
      · obtain ⟨s, hs⟩ : ∃ s, s = str l := ⟨_, rfl⟩
        rw [← hs] at htk blp0 hcp0
        have Hs := Lib.hid hs
        clear hs
        go_wp2_with fail
        refine (htk _).mono ?_
        rintro e w3 ⟨rfl, hb3⟩
        have blp3 := blk_keep (hal blp0) hb3
        have blo3 := blk_keep (heap_alloc_new wr _) hb3
        have hbw3 := below_tr (below_al hbel _) hb3
        clear blp0 hcp0 hzp0 hfp0 htk hx0 hx1 hxl hb3
        have hcp3 := blk_cell blp3
        have hzp3 := lt_of_block blp3
        have hfp3 := blk_free blp3
        have hco3 := blk_cell blo3
        have hzo3 := lt_of_block blo3
        have hfo3 := blk_free blo3
        by_cases hk : kj = 2
        · have dk : (kj == 2) = true := by simpa using hk
          clear hk
          rcases give_map hmap.out nj with ⟨_, hgv⟩ | ⟨x, rfl, hx2, hxm, hbx, hmapx, hgv⟩
          · rw [← Hs.out] at hgv
            go_wp2_with fail
            refine (hgv _).mono ?_
            rintro e w4 ⟨rfl, hb4⟩
            have blp4 := blk_keep (hal blp3) hb4
            have blo4 := blk_keep (hal blo3) hb4
            have hbw4 := below_tr (below_al hbw3 _) hb4
            clear blp3 hcp3 hzp3 hfp3 blo3 hco3 hzo3 hfo3 hgv hb4
            have hcp4 := blk_cell blp4
            have hzp4 := lt_of_block blp4
            have hfp4 := blk_free blp4
            have hco4 := blk_cell blo4
            have hzo4 := lt_of_block blo4
            have hfo4 := blk_free blo4
            go_wp2
            go_roundw
            case rel => exact ⟨j + 1, l, by go_num, by omega, Lib.hid hmap.out, below_al hbw4 _, by rw [← Hs.out]; exact hal blp4⟩
            case measure => simp [intOf]; omega
          · rw [← Hs.out] at hgv
            obtain ⟨sx, hsx⟩ : ∃ sx, sx = str ((l).set x 2) := ⟨_, rfl⟩
            rw [← hsx] at hgv
            have Hsx := Lib.hid hsx
            clear hsx
            go_wp2_with fail
            refine (hgv _).mono ?_
            rintro e w4 ⟨rfl, hb4⟩
            have blp4 := blk_keep (hal blp3) hb4
            have blo4 := blk_keep (hal blo3) hb4
            have hbw4 := below_tr (below_al hbw3 _) hb4
            clear blp3 hcp3 hzp3 hfp3 blo3 hco3 hzo3 hfo3 hgv hb4
            have hcp4 := blk_cell blp4
            have hzp4 := lt_of_block blp4
            have hfp4 := blk_free blp4
            have hco4 := blk_cell blo4
            have hzo4 := lt_of_block blo4
            have hfo4 := blk_free blo4
            go_wp2
            go_roundw
            case rel => exact ⟨j + 1, (l).set x 2, by go_num, by omega, Lib.hid hmapx, below_al (below_set4 hbw4 hbw2.size _ _ _ _) _, by rw [← Hsx.out]; exact hal (set4_same blp4 _ _ _ _)⟩
            case measure => simp [intOf]; omega
        · have dk : (kj == 2) = false := by simpa using hk
          clear hk
          go_wp2
          go_roundw
          case rel => exact ⟨j + 1, l, by go_num, by omega, Lib.hid hmap.out, below_al hbw3 _, by rw [← Hs.out]; exact hal blp3⟩
          case measure => simp [intOf]; omega
      · have hl := hmap.out.len
        have hub : usedF 2 l i = false := usedF_map_false hmap.out i (by rw [hbi]; decide)
        have huq : usedF 2 (l.set i 1) i = true := (usedF_map hmap2 i).2 ⟨by omega, by omega, by rw [Int.toNat_natCast, bt_set l i 1 (by omega), if_pos rfl]; rfl⟩
        have hg : ∀ w, _ := fun w => give_ok 2 0 0 i (l.set i 1) w (by rw [List.length_set]; omega) hi2 huq
        rw [set_back (by omega) hbi] at hg
        have hup := fun w => used_any 2 0 0 i l w (by omega)
        have huu := fun w => used_any 2 0 0 i (l.set i 1) w (by rw [List.length_set]; omega)
        rw [hub] at hup
        rw [huq] at huu
        obtain ⟨s, hs⟩ : ∃ s, s = str l := ⟨_, rfl⟩
        rw [← hs] at htk blp0 hcp0 hg hup
        clear hs
        obtain ⟨s1, hs1⟩ : ∃ s1, s1 = str (l.set i 1) := ⟨_, rfl⟩
        rw [← hs1] at htk hg huu
        have Hs1 := Lib.hid hs1
        have Hmap2 := Lib.hid hmap2
        clear hs1 hub huq hmap2 hl hbi
        go_wp2_with fail
        refine (htk _).mono ?_
        rintro e w3 ⟨rfl, hb3⟩
        have blp3 := blk_keep (hal blp0) hb3
        have blo3 := blk_keep (heap_alloc_new wr _) hb3
        have hbw3 := below_tr (below_al hbel _) hb3
        clear blp0 hcp0 hzp0 hfp0 htk hx0 hx1 hxl hb3
        have hcp3 := blk_cell blp3
        have hzp3 := lt_of_block blp3
        have hfp3 := blk_free blp3
        have hco3 := blk_cell blo3
        have hzo3 := lt_of_block blo3
        have hfo3 := blk_free blo3
        go_wp2_with fail
        refine (hg _).mono ?_
        rintro e w4 ⟨rfl, hb4⟩
        have blp4 := blk_keep (hal blp3) hb4
        have blo4 := blk_keep (hal blo3) hb4
        have blq4 := blk_keep (heap_alloc_new w3 _) hb4
        have hbw4 := below_tr (below_al hbw3 _) hb4
        clear blp3 hcp3 hzp3 hfp3 blo3 hco3 hzo3 hfo3 hg hb4
        have hcp4 := blk_cell blp4
        have hzp4 := lt_of_block blp4
        have hfp4 := blk_free blp4
        have hco4 := blk_cell blo4
        have hzo4 := lt_of_block blo4
        have hfo4 := blk_free blo4
        have hcq4 := blk_cell blq4
        have hzq4 := lt_of_block blq4
        have hfq4 := blk_free blq4
        go_wp2_with fail
        refine (hup _).mono ?_
        rintro e w5 ⟨rfl, hb5⟩
        have blp5 := blk_keep (hal blp4) hb5
        have blo5 := blk_keep (hal blo4) hb5
        have blq5 := blk_keep (hal blq4) hb5
        have hbw5 := below_tr (below_al hbw4 _) hb5
        clear blp4 hcp4 hzp4 hfp4 blo4 hco4 hzo4 hfo4 blq4 hcq4 hzq4 hfq4 hup hb5
        have hcp5 := blk_cell blp5
        have hzp5 := lt_of_block blp5
        have hfp5 := blk_free blp5
        have hco5 := blk_cell blo5
        have hzo5 := lt_of_block blo5
        have hfo5 := blk_free blo5
        have hcq5 := blk_cell blq5
        have hzq5 := lt_of_block blq5
        have hfq5 := blk_free blq5
        go_wp2_with fail
        refine (huu _).mono ?_
        rintro e w6 ⟨rfl, hb6⟩
        have blp6 := blk_keep (blp5) hb6
        have blo6 := blk_keep (blo5) hb6
        have blq6 := blk_keep (blq5) hb6
        have hbw6 := below_tr (hbw5) hb6
        clear blp5 hcp5 hzp5 hfp5 blo5 hco5 hzo5 hfo5 blq5 hcq5 hzq5 hfq5 huu hb6
        have hcp6 := blk_cell blp6
        have hzp6 := lt_of_block blp6
        have hfp6 := blk_free blp6
        have hco6 := blk_cell blo6
        have hzo6 := lt_of_block blo6
        have hfo6 := blk_free blo6
        have hcq6 := blk_cell blq6
        have hzq6 := lt_of_block blq6
        have hfq6 := blk_free blq6
        by_cases hk : kj = 2
        · have dk : (kj == 2) = true := by simpa using hk
          clear hk
          rcases give_map Hmap2.out nj with ⟨_, hgv⟩ | ⟨x, rfl, hx2, hxm, hbx, hmapx, hgv⟩
          · rw [← Hs1.out] at hgv
            go_wp2_with fail
            refine (hgv _).mono ?_
            rintro e w7 ⟨rfl, hb7⟩
            have blp7 := blk_keep (set4_same blp6 _ _ _ _) hb7
            have blo7 := blk_keep (hs4 blo6 (by omega)) hb7
            have hbw7 := below_tr (below_set4 hbw6 hbw2.size _ _ _ _) hb7
            clear blp6 hcp6 hzp6 hfp6 blo6 hco6 hzo6 hfo6 blq6 hcq6 hzq6 hfq6 hgv hb7
            have hcp7 := blk_cell blp7
            have hzp7 := lt_of_block blp7
            have hfp7 := blk_free blp7
            have hco7 := blk_cell blo7
            have hzo7 := lt_of_block blo7
            have hfo7 := blk_free blo7
            go_wp2
            go_roundw
            case rel => exact ⟨j + 1, l.set i 1, by go_num, by omega, Lib.hid Hmap2.out, below_al hbw7 _, by rw [← Hs1.out]; exact hal blp7⟩
            case measure => simp [intOf]; omega
          · rw [← Hs1.out] at hgv
            obtain ⟨sx, hsx⟩ : ∃ sx, sx = str ((l.set i 1).set x 2) := ⟨_, rfl⟩
            rw [← hsx] at hgv
            have Hsx := Lib.hid hsx
            clear hsx
            go_wp2_with fail
            refine (hgv _).mono ?_
            rintro e w7 ⟨rfl, hb7⟩
            have blp7 := blk_keep (set4_same blp6 _ _ _ _) hb7
            have blo7 := blk_keep (hs4 blo6 (by omega)) hb7
            have hbw7 := below_tr (below_set4 hbw6 hbw2.size _ _ _ _) hb7
            clear blp6 hcp6 hzp6 hfp6 blo6 hco6 hzo6 hfo6 blq6 hcq6 hzq6 hfq6 hgv hb7
            have hcp7 := blk_cell blp7
            have hzp7 := lt_of_block blp7
            have hfp7 := blk_free blp7
            have hco7 := blk_cell blo7
            have hzo7 := lt_of_block blo7
            have hfo7 := blk_free blo7
            go_wp2
            go_roundw
            case rel => exact ⟨j + 1, (l.set i 1).set x 2, by go_num, by omega, Lib.hid hmapx, below_al (below_set4 hbw7 hbw2.size _ _ _ _) _, by rw [← Hsx.out]; exact hal (set4_same blp7 _ _ _ _)⟩
            case measure => simp [intOf]; omega
        · have dk : (kj == 2) = false := by simpa using hk
          clear hk
          go_wp2
          go_roundw
          case rel => exact ⟨j + 1, l.set i 1, by go_num, by omega, Lib.hid Hmap2.out, below_set4 hbw6 hbw2.size _ _ _ _, by rw [← Hs1.out]; exact set4_same blp6 _ _ _ _⟩
          case measure => simp [intOf]; omega
    · obtain rfl : j = len := by omega
      have hpg := fun w => pages_any 2 0 0 l w (by have := hmap.out.len; omega)
      rw [pagesF_map hmap.out] at hpg
      obtain ⟨s, hs⟩ : ∃ s, s = str l := ⟨_, rfl⟩
      rw [← hs] at hpg blp0 hcp0
      clear hs
      go_wp2_with fail
      refine (hpg _).mono ?_
      rintro e w3 ⟨rfl, hb3⟩
      have hbw3 := below_tr hbel hb3
      clear hpg blp0 hcp0 hzp0 hfp0 hb3
      go_wp2
      go_ret
      exact ⟨rfl, hbw3⟩
end Go.Proofs.YtgafmbdledpblaaDoor.Sp
