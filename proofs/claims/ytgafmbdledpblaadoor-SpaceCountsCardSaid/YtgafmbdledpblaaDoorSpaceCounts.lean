/- The walk of SpaceCounts: free pages and used ones are all pages. -/
import Derived.Test.YtgafmbdledpblaaDoorSpaceSteps
namespace Go.Proofs.YtgafmbdledpblaaDoor.Sp
open Go.RowKit Go.Proofs.YtgafmbdledpblaaDoor.Mem Go.Proofs.YtgafmbdledpblaaDoor.Pg

set_option maxRecDepth 100000 in
set_option maxHeartbeats 8000000 in
theorem counts_any (n : Int) (A : Option Addr) (len cap : Nat) (K N : Nat → Int) (w : World) (hops : Ops w A len K N) :
    Calls Tryd.prog 6 #[.int .i64 n, .slice A len cap] w fun e w' => e = .returned (.bool true) ∧ Below w.heap.size w w' := by
  have ha := fun w => alive_any w
  by_cases h8 : n < 8
  · have d8 : decide (n < 8) = true := by simpa using h8
    go_enter Tryd.func6, Tryd.ntmps6
    go_wp2_with fail
    refine (ha _).mono ?_
    rintro e w1 ⟨rfl, hb1⟩
    go_wp2
    go_ret
    exact ⟨rfl, hb1⟩
  have d8 : decide (n < 8) = false := by simpa using h8
  by_cases h64 : 64 < n
  · have d64 : decide (64 < n) = true := by simpa using h64
    go_enter Tryd.func6, Tryd.ntmps6
    go_wp2_with fail
    refine (ha _).mono ?_
    rintro e w1 ⟨rfl, hb1⟩
    go_wp2
    go_ret
    exact ⟨rfl, hb1⟩
  have d64 : decide (64 < n) = false := by simpa using h64
  by_cases h80 : 80 < len
  · have d80 : decide ((80 : Int) < (len : Int)) = true := by simp; omega
    go_enter Tryd.func6, Tryd.ntmps6
    go_wp2_with fail
    refine (ha _).mono ?_
    rintro e w1 ⟨rfl, hb1⟩
    go_wp2
    go_ret
    exact ⟨rfl, hb1⟩
  have d80 : decide ((80 : Int) < (len : Int)) = false := by simp; omega
  have d80' : decide (80 < len) = false := by simp; omega
  obtain ⟨m, rfl⟩ : ∃ m : Nat, n = m := ⟨n.toNat, by omega⟩
  have hm8 : 8 ≤ m := by omega
  have hm64 : m ≤ 64 := by omega
  have hnew := fun w => new_ok m w hm8 hm64
  have hs0 := Lib.hid (isMap_new m hm8 hm64)
  have Hops := Lib.hid hops
  have hlen80 : len ≤ 80 := by omega
  clear h8 h64 h80 hops
  go_enter Tryd.func6, Tryd.ntmps6
  go_wp2_with fail
  refine (ha _).mono ?_
  rintro e w1 ⟨rfl, hb1⟩
  go_wp2_with fail
  refine (hnew _).mono ?_
  rintro e w2 ⟨rfl, hb2⟩
  have hbw2 := below_tr hb1 hb2
  clear hb1 hb2
  go_wp2_with fail
  go_loopw [41] (fun i wr => ∃ (j : Nat) (l : List UInt8), i = .int .i64 j ∧ j ≤ len ∧ Hid (IsMap m l) ∧ Below w.heap.size w wr ∧ wr.heap[w2.heap.size]? = some (.cells #[.int .i64 2, .int .i64 0, .int .i64 0, .string (str l)] 23 (0, 0))) (fun i _ => len - (intOf i).toNat)
  case atStart => exact ⟨0, newL m, rfl, Nat.zero_le _, hs0, below_al hbw2 _, heap_alloc_new w2 _⟩
  case round =>
    obtain ⟨j, l, rfl, hj, hmap, hbel, blp0⟩ := hrel
    clear hs0 hnew
    have hcp0 := blk_cell blp0
    have hzp0 := lt_of_block blp0
    have hfp0 := blk_free blp0
    have hne : wr.heap.size ≠ w2.heap.size := by omega
    have hne2 : ¬ wr.heap.size = w2.heap.size := hne
    have hne3 : ¬ w2.heap.size = wr.heap.size := by omega
    by_cases hlt : j < len
    · obtain ⟨b, off, rfl, hbl, hcell⟩ := Hops.out (by omega)
      have hx0 := (hbel.cell (p := ⟨b, off + j * 2, none⟩) hbl).trans (hcell j hlt).1
      have hx1 := (hbel.cell (p := ⟨b, off + j * 2 + 1, none⟩) hbl).trans (hcell j hlt).2
      have hxl : b < wr.heap.size := Nat.lt_of_lt_of_le hbl hbel.size
      clear hcell Hops
      generalize K j = kj at *
      generalize N j = nj at *
      have hlt' : (j : Int) < (len : Int) := by omega
      by_cases hk : kj = 1
      · have dk : (kj == 1) = true := by simpa using hk
        clear hk
        rcases take_map hmap.out with ⟨_, _, htk⟩ | ⟨i, hi2, him, hbi, _, hmap2, htk⟩
        · obtain ⟨s, hs⟩ : ∃ s, s = str l := ⟨_, rfl⟩
          rw [← hs] at htk blp0 hcp0
          have Hs := Lib.hid hs
          clear hs
          go_wp2_with fail
          refine (htk _).mono ?_
          rintro e w3 ⟨rfl, hb3⟩
          have blp3 := blk_keep (hal blp0) hb3
          have blo3 := blk_keep (heap_alloc_new wr _) hb3
          have hbw3 := below_tr (below_al hbel _) hb3
          clear blp0 hcp0 hzp0 hfp0 htk hx0 hx1 hxl hb3
          have hcp3 := blk_cell blp3
          have hzp3 := lt_of_block blp3
          have hfp3 := blk_free blp3
          have hco3 := blk_cell blo3
          have hzo3 := lt_of_block blo3
          have hfo3 := blk_free blo3
          have hus : ∀ (y : Int) (w : World), _ := fun y w => used_any 2 0 0 y (l) w (by have := (hmap.out).len; omega)
          have hfr := fun w => free_any 2 0 0 (l) w (by have := (hmap.out).len; omega)
          have hpg := fun w => pages_any 2 0 0 (l) w (by have := (hmap.out).len; omega)
          rw [pagesF_map (hmap.out)] at hfr hpg
          rw [← Hs.out] at hus hfr hpg
          have hall := cnt_all (hmap.out)
          have hcl := cnt_le m (l)
          have hstep := Lib.hid (cnt_step (hmap.out))
          have hu0 : usedF 2 (l) 0 = true := (usedF_map (hmap.out) 0).2 ⟨by omega, by omega, (hmap.out).b0⟩
          have hu1 : usedF 2 (l) 1 = true := (usedF_map (hmap.out) 1).2 ⟨by omega, by omega, (hmap.out).b1⟩
          have hneg : usedF 2 (l) (-1) = false := rfl
          generalize hC : cnt m (l) = C at *
          generalize hU : usedF 2 (l) = U at *
          generalize hFr : (List.take m (l)).count 2 = fr at *
          have hC0 : C 0 = 0 := by rw [← hC]; rfl
          clear hC hU hFr
          go_wp2_with fail
          go_loopw [14, 15] (fun u i wx => ∃ t : Nat, u = .int .i64 (C (t - 1) : Nat) ∧ i = .int .i64 ((t : Int) - 1) ∧ t ≤ m + 2 ∧ Below w.heap.size w wx ∧ wx.heap[w2.heap.size]? = some (.cells #[.int .i64 2, .int .i64 0, .int .i64 0, .string s] 23 (0, 0))) (fun _ i _ => ((m : Int) + 1 - intOf i).toNat)
          case atStart => exact ⟨0, by rw [show 0 - 1 = 0 from rfl, hC0]; rfl, rfl, by omega, below_al hbw3 _, hal blp3⟩
          case round =>
            obtain ⟨t, rfl, rfl, ht, hbx, blpx⟩ := hrel
            clear blp3 hcp3 hzp3 hfp3 blo3 hco3 hzo3 hfo3
            have hcpx := blk_cell blpx
            have hzpx := lt_of_block blpx
            by_cases htm : t < m + 2
            · have dt : decide ((t : Int) - 1 ≤ (m : Int)) = true := by simp; omega
              have hust := hus ((t : Int) - 1)
              rcases hut : U ((t : Int) - 1) with _ | _
              · rw [hut] at hust
                have hct : C (t + 1 - 1) = C (t - 1) := by
                  rcases Nat.eq_zero_or_pos t with rfl | h0
                  · rfl
                  · have h1 := hstep.out (t - 1)
                    rw [show ((t - 1 : Nat) : Int) = (t : Int) - 1 by omega, hut] at h1
                    rw [show t + 1 - 1 = t - 1 + 1 by omega, h1]
                    rfl
                have Hct := Lib.hid hct
                clear hct hut
                go_wp2_with fail
                refine (hust _).mono ?_
                rintro e wy ⟨rfl, hby⟩
                have blpy := blk_keep blpx hby
                have hbwy := below_tr hbx hby
                clear hby blpx hcpx hzpx hbx hust
                go_wp2
                go_roundw
                case rel => exact ⟨t + 1, by rw [Hct.out], by congr 1; omega, by omega, hbwy, blpy⟩
                case measure => simp [intOf]; omega
              · rw [hut] at hust
                have hct : C (t + 1 - 1) = C (t - 1) + 1 := by
                  rcases Nat.eq_zero_or_pos t with rfl | h0
                  · rw [show ((0 : Nat) : Int) - 1 = -1 from rfl, hneg] at hut; exact absurd hut (by decide)
                  · have h1 := hstep.out (t - 1)
                    rw [show ((t - 1 : Nat) : Int) = (t : Int) - 1 by omega, hut] at h1
                    rw [show t + 1 - 1 = t - 1 + 1 by omega, h1]
                    rfl
                have Hct := Lib.hid hct
                have hclt := hcl (t - 1)
                clear hct hut
                go_wp2_with fail
                refine (hust _).mono ?_
                rintro e wy ⟨rfl, hby⟩
                have blpy := blk_keep blpx hby
                have hbwy := below_tr hbx hby
                clear hby blpx hcpx hzpx hbx hust
                go_wp2
                go_roundw
                case rel => exact ⟨t + 1, by rw [Hct.out]; go_num, by congr 1; omega, by omega, hbwy, blpy⟩
                case measure => simp [intOf]; omega
            · obtain rfl : t = m + 2 := by omega
              have dt : decide (((m + 2 : Nat) : Int) - 1 ≤ (m : Int)) = false := by simp; omega
              have hus0 := hus 0
              have hus1 := hus 1
              rw [hu0] at hus0
              rw [hu1] at hus1
              rw [show m + 1 = m + 2 - 1 by omega] at hall
              have hcm : (C (m + 2 - 1) : Int) + (fr : Int) = (m : Int) := by omega
              generalize C (m + 2 - 1) = cm at *
              clear hus hstep hcl hall
              have hcw : IntKind.i64.wrap ((cm : Int) + (fr : Int)) = (m : Int) := by rw [hcm]; exact IntWalk.i64_in _ (by omega)
              go_wp2_with fail
              refine (hfr _).mono ?_
              rintro e wy ⟨rfl, hby⟩
              have bly := blk_keep blpx hby
              have hbwy := below_tr hbx hby
              clear hby blpx hcpx hzpx hbx hfr
              have hcy := blk_cell bly
              go_wp2_with fail
              refine (hpg _).mono ?_
              rintro e wz ⟨rfl, hbz⟩
              have blz := blk_keep bly hbz
              have hbwz := below_tr hbwy hbz
              clear hbz bly hcy hbwy hpg
              have hcz := blk_cell blz
              go_wp2_with fail
              refine (hus0 _).mono ?_
              rintro e wa ⟨rfl, hba⟩
              have bla := blk_keep blz hba
              have hbwa := below_tr hbwz hba
              clear hba blz hcz hbwz hus0
              have hca := blk_cell bla
              go_wp2_with fail
              refine (hus1 _).mono ?_
              rintro e wb ⟨rfl, hbb⟩
              have blb := blk_keep bla hbb
              have hbwb := below_tr hbwa hbb
              clear hbb bla hca hbwa hus1
              go_wp2
              go_roundw
              case rel => exact ⟨j + 1, l, by go_num, by omega, Lib.hid (hmap.out), hbwb, by rw [← Hs.out]; exact blb⟩
              case measure => simp [intOf]; omega
        · obtain ⟨s, hs⟩ : ∃ s, s = str l := ⟨_, rfl⟩
          rw [← hs] at htk blp0 hcp0
          clear hs
          obtain ⟨s1, hs1⟩ : ∃ s1, s1 = str (l.set i 1) := ⟨_, rfl⟩
          rw [← hs1] at htk
          have Hs1 := Lib.hid hs1
          have Hmapn := Lib.hid hmap2
          clear hs1 hmap2
          go_wp2_with fail
          refine (htk _).mono ?_
          rintro e w3 ⟨rfl, hb3⟩
          have blp3 := blk_keep (hal blp0) hb3
          have blo3 := blk_keep (heap_alloc_new wr _) hb3
          have hbw3 := below_tr (below_al hbel _) hb3
          clear blp0 hcp0 hzp0 hfp0 htk hx0 hx1 hxl hb3
          have hcp3 := blk_cell blp3
          have hzp3 := lt_of_block blp3
          have hfp3 := blk_free blp3
          have hco3 := blk_cell blo3
          have hzo3 := lt_of_block blo3
          have hfo3 := blk_free blo3
          have hus : ∀ (y : Int) (w : World), _ := fun y w => used_any 2 0 0 y (l.set i 1) w (by have := (Hmapn.out).len; omega)
          have hfr := fun w => free_any 2 0 0 (l.set i 1) w (by have := (Hmapn.out).len; omega)
          have hpg := fun w => pages_any 2 0 0 (l.set i 1) w (by have := (Hmapn.out).len; omega)
          rw [pagesF_map (Hmapn.out)] at hfr hpg
          rw [← Hs1.out] at hus hfr hpg
          have hall := cnt_all (Hmapn.out)
          have hcl := cnt_le m (l.set i 1)
          have hstep := Lib.hid (cnt_step (Hmapn.out))
          have hu0 : usedF 2 (l.set i 1) 0 = true := (usedF_map (Hmapn.out) 0).2 ⟨by omega, by omega, (Hmapn.out).b0⟩
          have hu1 : usedF 2 (l.set i 1) 1 = true := (usedF_map (Hmapn.out) 1).2 ⟨by omega, by omega, (Hmapn.out).b1⟩
          have hneg : usedF 2 (l.set i 1) (-1) = false := rfl
          generalize hC : cnt m (l.set i 1) = C at *
          generalize hU : usedF 2 (l.set i 1) = U at *
          generalize hFr : (List.take m (l.set i 1)).count 2 = fr at *
          have hC0 : C 0 = 0 := by rw [← hC]; rfl
          clear hC hU hFr
          go_wp2_with fail
          go_loopw [14, 15] (fun u i wx => ∃ t : Nat, u = .int .i64 (C (t - 1) : Nat) ∧ i = .int .i64 ((t : Int) - 1) ∧ t ≤ m + 2 ∧ Below w.heap.size w wx ∧ wx.heap[w2.heap.size]? = some (.cells #[.int .i64 2, .int .i64 0, .int .i64 0, .string s1] 23 (0, 0))) (fun _ i _ => ((m : Int) + 1 - intOf i).toNat)
          case atStart => exact ⟨0, by rw [show 0 - 1 = 0 from rfl, hC0]; rfl, rfl, by omega, below_al (below_set4 hbw3 hbw2.size _ _ _ _) _, hal (set4_same blp3 _ _ _ _)⟩
          case round =>
            obtain ⟨t, rfl, rfl, ht, hbx, blpx⟩ := hrel
            clear blp3 hcp3 hzp3 hfp3 blo3 hco3 hzo3 hfo3
            have hcpx := blk_cell blpx
            have hzpx := lt_of_block blpx
            by_cases htm : t < m + 2
            · have dt : decide ((t : Int) - 1 ≤ (m : Int)) = true := by simp; omega
              have hust := hus ((t : Int) - 1)
              rcases hut : U ((t : Int) - 1) with _ | _
              · rw [hut] at hust
                have hct : C (t + 1 - 1) = C (t - 1) := by
                  rcases Nat.eq_zero_or_pos t with rfl | h0
                  · rfl
                  · have h1 := hstep.out (t - 1)
                    rw [show ((t - 1 : Nat) : Int) = (t : Int) - 1 by omega, hut] at h1
                    rw [show t + 1 - 1 = t - 1 + 1 by omega, h1]
                    rfl
                have Hct := Lib.hid hct
                clear hct hut
                go_wp2_with fail
                refine (hust _).mono ?_
                rintro e wy ⟨rfl, hby⟩
                have blpy := blk_keep blpx hby
                have hbwy := below_tr hbx hby
                clear hby blpx hcpx hzpx hbx hust
                go_wp2
                go_roundw
                case rel => exact ⟨t + 1, by rw [Hct.out], by congr 1; omega, by omega, hbwy, blpy⟩
                case measure => simp [intOf]; omega
              · rw [hut] at hust
                have hct : C (t + 1 - 1) = C (t - 1) + 1 := by
                  rcases Nat.eq_zero_or_pos t with rfl | h0
                  · rw [show ((0 : Nat) : Int) - 1 = -1 from rfl, hneg] at hut; exact absurd hut (by decide)
                  · have h1 := hstep.out (t - 1)
                    rw [show ((t - 1 : Nat) : Int) = (t : Int) - 1 by omega, hut] at h1
                    rw [show t + 1 - 1 = t - 1 + 1 by omega, h1]
                    rfl
                have Hct := Lib.hid hct
                have hclt := hcl (t - 1)
                clear hct hut
                go_wp2_with fail
                refine (hust _).mono ?_
                rintro e wy ⟨rfl, hby⟩
                have blpy := blk_keep blpx hby
                have hbwy := below_tr hbx hby
                clear hby blpx hcpx hzpx hbx hust
                go_wp2
                go_roundw
                case rel => exact ⟨t + 1, by rw [Hct.out]; go_num, by congr 1; omega, by omega, hbwy, blpy⟩
                case measure => simp [intOf]; omega
            · obtain rfl : t = m + 2 := by omega
              have dt : decide (((m + 2 : Nat) : Int) - 1 ≤ (m : Int)) = false := by simp; omega
              have hus0 := hus 0
              have hus1 := hus 1
              rw [hu0] at hus0
              rw [hu1] at hus1
              rw [show m + 1 = m + 2 - 1 by omega] at hall
              have hcm : (C (m + 2 - 1) : Int) + (fr : Int) = (m : Int) := by omega
              generalize C (m + 2 - 1) = cm at *
              clear hus hstep hcl hall
              have hcw : IntKind.i64.wrap ((cm : Int) + (fr : Int)) = (m : Int) := by rw [hcm]; exact IntWalk.i64_in _ (by omega)
              go_wp2_with fail
              refine (hfr _).mono ?_
              rintro e wy ⟨rfl, hby⟩
              have bly := blk_keep blpx hby
              have hbwy := below_tr hbx hby
              clear hby blpx hcpx hzpx hbx hfr
              have hcy := blk_cell bly
              go_wp2_with fail
              refine (hpg _).mono ?_
              rintro e wz ⟨rfl, hbz⟩
              have blz := blk_keep bly hbz
              have hbwz := below_tr hbwy hbz
              clear hbz bly hcy hbwy hpg
              have hcz := blk_cell blz
              go_wp2_with fail
              refine (hus0 _).mono ?_
              rintro e wa ⟨rfl, hba⟩
              have bla := blk_keep blz hba
              have hbwa := below_tr hbwz hba
              clear hba blz hcz hbwz hus0
              have hca := blk_cell bla
              go_wp2_with fail
              refine (hus1 _).mono ?_
              rintro e wb ⟨rfl, hbb⟩
              have blb := blk_keep bla hbb
              have hbwb := below_tr hbwa hbb
              clear hbb bla hca hbwa hus1
              go_wp2
              go_roundw
              case rel => exact ⟨j + 1, l.set i 1, by go_num, by omega, Lib.hid (Hmapn.out), hbwb, by rw [← Hs1.out]; exact blb⟩
              case measure => simp [intOf]; omega
      · have dk : (kj == 1) = false := by simpa using hk
        clear hk
        rcases give_map hmap.out nj with ⟨_, hgv⟩ | ⟨x, rfl, hx2, hxm, hbx, hmapx, hgv⟩
        · obtain ⟨s, hs⟩ : ∃ s, s = str l := ⟨_, rfl⟩
          rw [← hs] at hgv blp0 hcp0
          have Hs := Lib.hid hs
          clear hs
          go_wp2_with fail
          refine (hgv _).mono ?_
          rintro e w3 ⟨rfl, hb3⟩
          have blp3 := blk_keep (hal blp0) hb3
          have blo3 := blk_keep (heap_alloc_new wr _) hb3
          have hbw3 := below_tr (below_al hbel _) hb3
          clear blp0 hcp0 hzp0 hfp0 hgv hx0 hx1 hxl hb3
          have hcp3 := blk_cell blp3
          have hzp3 := lt_of_block blp3
          have hfp3 := blk_free blp3
          have hco3 := blk_cell blo3
          have hzo3 := lt_of_block blo3
          have hfo3 := blk_free blo3
          have hus : ∀ (y : Int) (w : World), _ := fun y w => used_any 2 0 0 y (l) w (by have := (hmap.out).len; omega)
          have hfr := fun w => free_any 2 0 0 (l) w (by have := (hmap.out).len; omega)
          have hpg := fun w => pages_any 2 0 0 (l) w (by have := (hmap.out).len; omega)
          rw [pagesF_map (hmap.out)] at hfr hpg
          rw [← Hs.out] at hus hfr hpg
          have hall := cnt_all (hmap.out)
          have hcl := cnt_le m (l)
          have hstep := Lib.hid (cnt_step (hmap.out))
          have hu0 : usedF 2 (l) 0 = true := (usedF_map (hmap.out) 0).2 ⟨by omega, by omega, (hmap.out).b0⟩
          have hu1 : usedF 2 (l) 1 = true := (usedF_map (hmap.out) 1).2 ⟨by omega, by omega, (hmap.out).b1⟩
          have hneg : usedF 2 (l) (-1) = false := rfl
          generalize hC : cnt m (l) = C at *
          generalize hU : usedF 2 (l) = U at *
          generalize hFr : (List.take m (l)).count 2 = fr at *
          have hC0 : C 0 = 0 := by rw [← hC]; rfl
          clear hC hU hFr
          go_wp2_with fail
          go_loopw [14, 15] (fun u i wx => ∃ t : Nat, u = .int .i64 (C (t - 1) : Nat) ∧ i = .int .i64 ((t : Int) - 1) ∧ t ≤ m + 2 ∧ Below w.heap.size w wx ∧ wx.heap[w2.heap.size]? = some (.cells #[.int .i64 2, .int .i64 0, .int .i64 0, .string s] 23 (0, 0))) (fun _ i _ => ((m : Int) + 1 - intOf i).toNat)
          case atStart => exact ⟨0, by rw [show 0 - 1 = 0 from rfl, hC0]; rfl, rfl, by omega, below_al hbw3 _, hal blp3⟩
          case round =>
            obtain ⟨t, rfl, rfl, ht, hbx, blpx⟩ := hrel
            clear blp3 hcp3 hzp3 hfp3 blo3 hco3 hzo3 hfo3
            have hcpx := blk_cell blpx
            have hzpx := lt_of_block blpx
            by_cases htm : t < m + 2
            · have dt : decide ((t : Int) - 1 ≤ (m : Int)) = true := by simp; omega
              have hust := hus ((t : Int) - 1)
              rcases hut : U ((t : Int) - 1) with _ | _
              · rw [hut] at hust
                have hct : C (t + 1 - 1) = C (t - 1) := by
                  rcases Nat.eq_zero_or_pos t with rfl | h0
                  · rfl
                  · have h1 := hstep.out (t - 1)
                    rw [show ((t - 1 : Nat) : Int) = (t : Int) - 1 by omega, hut] at h1
                    rw [show t + 1 - 1 = t - 1 + 1 by omega, h1]
                    rfl
                have Hct := Lib.hid hct
                clear hct hut
                go_wp2_with fail
                refine (hust _).mono ?_
                rintro e wy ⟨rfl, hby⟩
                have blpy := blk_keep blpx hby
                have hbwy := below_tr hbx hby
                clear hby blpx hcpx hzpx hbx hust
                go_wp2
                go_roundw
                case rel => exact ⟨t + 1, by rw [Hct.out], by congr 1; omega, by omega, hbwy, blpy⟩
                case measure => simp [intOf]; omega
              · rw [hut] at hust
                have hct : C (t + 1 - 1) = C (t - 1) + 1 := by
                  rcases Nat.eq_zero_or_pos t with rfl | h0
                  · rw [show ((0 : Nat) : Int) - 1 = -1 from rfl, hneg] at hut; exact absurd hut (by decide)
                  · have h1 := hstep.out (t - 1)
                    rw [show ((t - 1 : Nat) : Int) = (t : Int) - 1 by omega, hut] at h1
                    rw [show t + 1 - 1 = t - 1 + 1 by omega, h1]
                    rfl
                have Hct := Lib.hid hct
                have hclt := hcl (t - 1)
                clear hct hut
                go_wp2_with fail
                refine (hust _).mono ?_
                rintro e wy ⟨rfl, hby⟩
                have blpy := blk_keep blpx hby
                have hbwy := below_tr hbx hby
                clear hby blpx hcpx hzpx hbx hust
                go_wp2
                go_roundw
                case rel => exact ⟨t + 1, by rw [Hct.out]; go_num, by congr 1; omega, by omega, hbwy, blpy⟩
                case measure => simp [intOf]; omega
            · obtain rfl : t = m + 2 := by omega
              have dt : decide (((m + 2 : Nat) : Int) - 1 ≤ (m : Int)) = false := by simp; omega
              have hus0 := hus 0
              have hus1 := hus 1
              rw [hu0] at hus0
              rw [hu1] at hus1
              rw [show m + 1 = m + 2 - 1 by omega] at hall
              have hcm : (C (m + 2 - 1) : Int) + (fr : Int) = (m : Int) := by omega
              generalize C (m + 2 - 1) = cm at *
              clear hus hstep hcl hall
              have hcw : IntKind.i64.wrap ((cm : Int) + (fr : Int)) = (m : Int) := by rw [hcm]; exact IntWalk.i64_in _ (by omega)
              go_wp2_with fail
              refine (hfr _).mono ?_
              rintro e wy ⟨rfl, hby⟩
              have bly := blk_keep blpx hby
              have hbwy := below_tr hbx hby
              clear hby blpx hcpx hzpx hbx hfr
              have hcy := blk_cell bly
              go_wp2_with fail
              refine (hpg _).mono ?_
              rintro e wz ⟨rfl, hbz⟩
              have blz := blk_keep bly hbz
              have hbwz := below_tr hbwy hbz
              clear hbz bly hcy hbwy hpg
              have hcz := blk_cell blz
              go_wp2_with fail
              refine (hus0 _).mono ?_
              rintro e wa ⟨rfl, hba⟩
              have bla := blk_keep blz hba
              have hbwa := below_tr hbwz hba
              clear hba blz hcz hbwz hus0
              have hca := blk_cell bla
              go_wp2_with fail
              refine (hus1 _).mono ?_
              rintro e wb ⟨rfl, hbb⟩
              have blb := blk_keep bla hbb
              have hbwb := below_tr hbwa hbb
              clear hbb bla hca hbwa hus1
              go_wp2
              go_roundw
              case rel => exact ⟨j + 1, l, by go_num, by omega, Lib.hid (hmap.out), hbwb, by rw [← Hs.out]; exact blb⟩
              case measure => simp [intOf]; omega
        · obtain ⟨s, hs⟩ : ∃ s, s = str l := ⟨_, rfl⟩
          rw [← hs] at hgv blp0 hcp0
          clear hs
          obtain ⟨s1, hs1⟩ : ∃ s1, s1 = str (l.set x 2) := ⟨_, rfl⟩
          rw [← hs1] at hgv
          have Hs1 := Lib.hid hs1
          have Hmapn := Lib.hid hmapx
          clear hs1 hmapx
          go_wp2_with fail
          refine (hgv _).mono ?_
          rintro e w3 ⟨rfl, hb3⟩
          have blp3 := blk_keep (hal blp0) hb3
          have blo3 := blk_keep (heap_alloc_new wr _) hb3
          have hbw3 := below_tr (below_al hbel _) hb3
          clear blp0 hcp0 hzp0 hfp0 hgv hx0 hx1 hxl hb3
          have hcp3 := blk_cell blp3
          have hzp3 := lt_of_block blp3
          have hfp3 := blk_free blp3
          have hco3 := blk_cell blo3
          have hzo3 := lt_of_block blo3
          have hfo3 := blk_free blo3
          have hus : ∀ (y : Int) (w : World), _ := fun y w => used_any 2 0 0 y (l.set x 2) w (by have := (Hmapn.out).len; omega)
          have hfr := fun w => free_any 2 0 0 (l.set x 2) w (by have := (Hmapn.out).len; omega)
          have hpg := fun w => pages_any 2 0 0 (l.set x 2) w (by have := (Hmapn.out).len; omega)
          rw [pagesF_map (Hmapn.out)] at hfr hpg
          rw [← Hs1.out] at hus hfr hpg
          have hall := cnt_all (Hmapn.out)
          have hcl := cnt_le m (l.set x 2)
          have hstep := Lib.hid (cnt_step (Hmapn.out))
          have hu0 : usedF 2 (l.set x 2) 0 = true := (usedF_map (Hmapn.out) 0).2 ⟨by omega, by omega, (Hmapn.out).b0⟩
          have hu1 : usedF 2 (l.set x 2) 1 = true := (usedF_map (Hmapn.out) 1).2 ⟨by omega, by omega, (Hmapn.out).b1⟩
          have hneg : usedF 2 (l.set x 2) (-1) = false := rfl
          generalize hC : cnt m (l.set x 2) = C at *
          generalize hU : usedF 2 (l.set x 2) = U at *
          generalize hFr : (List.take m (l.set x 2)).count 2 = fr at *
          have hC0 : C 0 = 0 := by rw [← hC]; rfl
          clear hC hU hFr
          go_wp2_with fail
          go_loopw [14, 15] (fun u i wx => ∃ t : Nat, u = .int .i64 (C (t - 1) : Nat) ∧ i = .int .i64 ((t : Int) - 1) ∧ t ≤ m + 2 ∧ Below w.heap.size w wx ∧ wx.heap[w2.heap.size]? = some (.cells #[.int .i64 2, .int .i64 0, .int .i64 0, .string s1] 23 (0, 0))) (fun _ i _ => ((m : Int) + 1 - intOf i).toNat)
          case atStart => exact ⟨0, by rw [show 0 - 1 = 0 from rfl, hC0]; rfl, rfl, by omega, below_al (below_set4 hbw3 hbw2.size _ _ _ _) _, hal (set4_same blp3 _ _ _ _)⟩
          case round =>
            obtain ⟨t, rfl, rfl, ht, hbx, blpx⟩ := hrel
            clear blp3 hcp3 hzp3 hfp3 blo3 hco3 hzo3 hfo3
            have hcpx := blk_cell blpx
            have hzpx := lt_of_block blpx
            by_cases htm : t < m + 2
            · have dt : decide ((t : Int) - 1 ≤ (m : Int)) = true := by simp; omega
              have hust := hus ((t : Int) - 1)
              rcases hut : U ((t : Int) - 1) with _ | _
              · rw [hut] at hust
                have hct : C (t + 1 - 1) = C (t - 1) := by
                  rcases Nat.eq_zero_or_pos t with rfl | h0
                  · rfl
                  · have h1 := hstep.out (t - 1)
                    rw [show ((t - 1 : Nat) : Int) = (t : Int) - 1 by omega, hut] at h1
                    rw [show t + 1 - 1 = t - 1 + 1 by omega, h1]
                    rfl
                have Hct := Lib.hid hct
                clear hct hut
                go_wp2_with fail
                refine (hust _).mono ?_
                rintro e wy ⟨rfl, hby⟩
                have blpy := blk_keep blpx hby
                have hbwy := below_tr hbx hby
                clear hby blpx hcpx hzpx hbx hust
                go_wp2
                go_roundw
                case rel => exact ⟨t + 1, by rw [Hct.out], by congr 1; omega, by omega, hbwy, blpy⟩
                case measure => simp [intOf]; omega
              · rw [hut] at hust
                have hct : C (t + 1 - 1) = C (t - 1) + 1 := by
                  rcases Nat.eq_zero_or_pos t with rfl | h0
                  · rw [show ((0 : Nat) : Int) - 1 = -1 from rfl, hneg] at hut; exact absurd hut (by decide)
                  · have h1 := hstep.out (t - 1)
                    rw [show ((t - 1 : Nat) : Int) = (t : Int) - 1 by omega, hut] at h1
                    rw [show t + 1 - 1 = t - 1 + 1 by omega, h1]
                    rfl
                have Hct := Lib.hid hct
                have hclt := hcl (t - 1)
                clear hct hut
                go_wp2_with fail
                refine (hust _).mono ?_
                rintro e wy ⟨rfl, hby⟩
                have blpy := blk_keep blpx hby
                have hbwy := below_tr hbx hby
                clear hby blpx hcpx hzpx hbx hust
                go_wp2
                go_roundw
                case rel => exact ⟨t + 1, by rw [Hct.out]; go_num, by congr 1; omega, by omega, hbwy, blpy⟩
                case measure => simp [intOf]; omega
            · obtain rfl : t = m + 2 := by omega
              have dt : decide (((m + 2 : Nat) : Int) - 1 ≤ (m : Int)) = false := by simp; omega
              have hus0 := hus 0
              have hus1 := hus 1
              rw [hu0] at hus0
              rw [hu1] at hus1
              rw [show m + 1 = m + 2 - 1 by omega] at hall
              have hcm : (C (m + 2 - 1) : Int) + (fr : Int) = (m : Int) := by omega
              generalize C (m + 2 - 1) = cm at *
              clear hus hstep hcl hall
              have hcw : IntKind.i64.wrap ((cm : Int) + (fr : Int)) = (m : Int) := by rw [hcm]; exact IntWalk.i64_in _ (by omega)
              go_wp2_with fail
              refine (hfr _).mono ?_
              rintro e wy ⟨rfl, hby⟩
              have bly := blk_keep blpx hby
              have hbwy := below_tr hbx hby
              clear hby blpx hcpx hzpx hbx hfr
              have hcy := blk_cell bly
              go_wp2_with fail
              refine (hpg _).mono ?_
              rintro e wz ⟨rfl, hbz⟩
              have blz := blk_keep bly hbz
              have hbwz := below_tr hbwy hbz
              clear hbz bly hcy hbwy hpg
              have hcz := blk_cell blz
              go_wp2_with fail
              refine (hus0 _).mono ?_
              rintro e wa ⟨rfl, hba⟩
              have bla := blk_keep blz hba
              have hbwa := below_tr hbwz hba
              clear hba blz hcz hbwz hus0
              have hca := blk_cell bla
              go_wp2_with fail
              refine (hus1 _).mono ?_
              rintro e wb ⟨rfl, hbb⟩
              have blb := blk_keep bla hbb
              have hbwb := below_tr hbwa hbb
              clear hbb bla hca hbwa hus1
              go_wp2
              go_roundw
              case rel => exact ⟨j + 1, l.set x 2, by go_num, by omega, Lib.hid (Hmapn.out), hbwb, by rw [← Hs1.out]; exact blb⟩
              case measure => simp [intOf]; omega
    · obtain rfl : j = len := by omega
      go_wp2
      go_ret
      exact ⟨rfl, hbel⟩
end Go.Proofs.YtgafmbdledpblaaDoor.Sp
