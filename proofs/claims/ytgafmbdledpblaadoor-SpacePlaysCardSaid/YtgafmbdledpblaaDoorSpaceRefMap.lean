/- The contract of the reference's Map: it counts as space.Pages does. -/
import Derived.Test.YtgafmbdledpblaaDoorSpaceRef
import Derived.Lib.SlicesS
import Derived.Deep.RegionHeld
namespace Go.Proofs.YtgafmbdledpblaaDoor.Sp
open Go.RowKit Go.Proofs.YtgafmbdledpblaaDoor.Mem Go.Proofs.YtgafmbdledpblaaDoor.Pg

/-- r bytes stand ahead of the first that is neither 1 nor 2. -/
structure Run (l : List UInt8) (r : Nat) : Prop where
  le : r ≤ l.length
  ok : ∀ j, j < r → bt l j = 1 ∨ bt l j = 2
  no1 : r < l.length → bt l r ≠ 1
  no2 : r < l.length → bt l r ≠ 2
theorem run_ex (l : List UInt8) : ∃ r, Run l r := by
  refine ⟨(l.takeWhile okB).length, (List.takeWhile_prefix _).length_le, ?_, ?_, ?_⟩
  · intro j hj
    have h1 : l[j]'(Nat.lt_of_lt_of_le hj (List.takeWhile_prefix _).length_le) = (l.takeWhile okB)[j] := ((List.takeWhile_prefix okB).getElem hj).symm
    have h2 := List.all_eq_true.1 (List.all_takeWhile (p := okB) (l := l)) _ (List.getElem_mem hj)
    rw [← h1] at h2
    simp [okB] at h2
    rw [bt_get l j (Nat.lt_of_lt_of_le hj (List.takeWhile_prefix _).length_le)]
    rcases h2 with h2 | h2
    · left; rw [h2]; rfl
    · right; rw [h2]; rfl
  all_goals
    intro hr hb
    have hd : l.dropWhile okB ≠ [] := by
      intro h0
      have := List.takeWhile_append_dropWhile (p := okB) (l := l)
      rw [h0, List.append_nil] at this
      rw [this] at hr
      omega
    have h1 := List.head_dropWhile_not okB hd
    have h2 : (l.dropWhile okB).head hd = l[(l.takeWhile okB).length] := by
      have h3 : l[(l.takeWhile okB).length]? = (l.dropWhile okB)[0]? := by
        conv => lhs; rw [← List.takeWhile_append_dropWhile (p := okB) (l := l)]
        rw [List.getElem?_append_right (by simp)]
        simp
      rw [List.getElem?_eq_getElem hr, ← List.head?_eq_getElem?, List.head?_eq_some_head hd] at h3
      exact (Option.some.inj h3).symm
    rw [h2] at h1
    rw [bt_get l _ hr] at hb
    simp [okB] at h1
    first
      | exact h1.1 (UInt8.toNat_inj.1 (show _ = 1 by omega))
      | exact h1.2 (UInt8.toNat_inj.1 (show _ = 2 by omega))
theorem run_map {l : List UInt8} {r n : Nat} (h : Run l r) (hm : IsMap n l) : r = n := by
  have hl := hm.len
  have h64 := hm.le
  rcases Nat.lt_trichotomy r n with h1 | h1 | h1
  · rcases hm.ok r h1 with h2 | h2
    · exact absurd h2 (h.no1 (by omega))
    · exact absurd h2 (h.no2 (by omega))
  · exact h1
  · have h2 := h.ok n h1
    rw [hm.past n (Nat.le_refl _)] at h2
    simp at h2
theorem map_run {l : List UInt8} {r : Nat} (h : Run l r) (hl : l.length = 240) (h8 : 8 ≤ r) (h64 : r ≤ 64) (hz : ∀ i, r ≤ i → bt l i = 0) (h0 : bt l 0 = 1) (h1 : bt l 1 = 1) : IsMap r l :=
  ⟨hl, h8, h64, h.ok, hz, h0, h1⟩
theorem cut_zeros (l : List UInt8) (r : Nat) (hr : r ≤ l.length) : (str l).extract r (str l).size = str (zs (l.length - r)) ↔ ∀ i, r ≤ i → bt l i = 0 := by
  have h1 : (str l).extract r (str l).size = str (l.drop r) := by
    apply ByteArray.ext
    apply Array.toList_inj.1
    simp [ByteArray.data_extract, str_size]
    rw [List.take_of_length_le (by simp)]
  rw [h1]
  constructor
  · intro h i hi
    have h2 : l.drop r = zs (l.length - r) := by
      have := congrArg (fun b => b.data.toList) h
      simpa using this
    rcases Nat.lt_or_ge i l.length with hl | hl
    · have h3 : (l.drop r)[i - r]? = (zs (l.length - r))[i - r]? := by rw [h2]
      rw [List.getElem?_drop, show r + (i - r) = i by omega, List.getElem?_eq_getElem hl, zs, List.getElem?_replicate, if_pos (by omega)] at h3
      rw [bt_get l i hl, Option.some.inj h3]
      rfl
    · exact bt_past l i hl
  · intro h
    congr 2
    apply List.ext_getElem (by simp [zs])
    intro i hi1 hi2
    rw [List.getElem_drop]
    rw [List.length_drop] at hi1
    have h3 := h (r + i) (by omega)
    rw [bt_get l _ (by omega)] at h3
    simp only [zs, List.getElem_replicate]
    exact UInt8.toNat_inj.1 (by simpa using h3)

set_option maxRecDepth 100000 in
set_option maxHeartbeats 4000000 in
theorem refMap_any (k d x : Int) (l : List UInt8) (w : World) (hl : l.length ≤ 1000) :
    Calls Tryd.prog 11 #[.agg #[.int .i64 k, .int .i64 d, .int .i64 x, .string (str l)]] w fun e w' =>
      e = .returned (.int .i64 (pagesF k l)) ∧ Below w.heap.size w w' := by
  by_cases hk : k = 2
  · by_cases h240 : l.length = 240
    · subst hk
      obtain ⟨r, hr⟩ := run_ex l
      have hrl := hr.le
      have hz := fun w => refZeros_any (240 - r) w (by omega)
      have hcz := cut_zeros l r hrl
      have hbt := str_bt l
      have hss : (str l).size = 240 := by rw [str_size]; exact h240
      generalize str l = s at hbt hss hcz ⊢
      have Hbt := Lib.hid hbt
      have Hr := Lib.hid hr
      have Hcz := Lib.hid hcz
      clear hbt hr hcz
      go_enter Tryd.func11, Tryd.ntmps11
      go_wp2_with fail
      go_loopw [3] (fun i wr => ∃ j : Nat, i = .int .i64 j ∧ j ≤ r ∧ Below w.heap.size w wr ∧ wr.heap[w.heap.size]? = some (.cells #[.int .i64 2, .int .i64 d, .int .i64 x, .string s] 23 (0, 0))) (fun i _ => 240 - (intOf i).toNat)
      case atStart => exact ⟨0, rfl, Nat.zero_le _, below_al (Below.refl _ w) _, heap_alloc_new w _⟩
      case round =>
        obtain ⟨j, rfl, hj, hbel, blp⟩ := hrel
        have hcp := blk_cell blp
        have hzp := lt_of_block blp
        by_cases hlt : j < r
        · have hb := Hbt.out j (by omega)
          have hj2 : j < s.size := by omega
          have hj3 : (j : Int) < (s.size : Int) := by omega
          have hj4 : decide ((j : Int) < 240) = true := by simp; omega
          by_cases c1 : bt l j = 1
          · have c1' : (bt l j == 1) = true := by simpa using c1
            clear c1
            go_wp2
            go_roundw
            case rel => exact ⟨j + 1, by go_num, by omega, hbel, blp⟩
            case measure => simp [intOf]; omega
          · have c2 : bt l j = 2 := (Hr.out.ok j hlt).resolve_left c1
            have c1' : (bt l j == 1) = false := by simpa using c1
            have c2' : (bt l j == 2) = true := by simpa using c2
            clear c1 c2
            go_wp2
            go_roundw
            case rel => exact ⟨j + 1, by go_num, by omega, hbel, blp⟩
            case measure => simp [intOf]; omega
        · obtain rfl : j = r := by omega
          clear hlt hj
          by_cases h2 : j < 240
          · have hb := Hbt.out j (by omega)
            have hj2 : j < s.size := by omega
            have hj3 : (j : Int) < (s.size : Int) := by omega
            have hj4 : decide ((j : Int) < 240) = true := by simp; omega
            have c1' : (bt l j == 1) = false := by simpa using Hr.out.no1 (by omega)
            have c2' : (bt l j == 2) = false := by simpa using Hr.out.no2 (by omega)
            obtain ⟨z, hzz⟩ : ∃ z, z = str (zs (240 - j)) := ⟨_, rfl⟩
            have hczo := Hcz.out
            rw [hss, h240, ← hzz] at hczo
            rw [← hzz] at hz
            have Hcz2 := Lib.hid hczo
            clear hzz hczo
            have hno : ∀ P : Prop, (∀ n, IsMap n l → j = n → P) → ¬ P → pagesF 2 l = 0 := fun P hP hn => by
              rcases Nat.eq_zero_or_pos (pagesF 2 l) with h | h
              · exact h
              · have hm := (map_pagesF (k := 2) (l := l) (by omega)).2
                exact absurd (hP _ hm (run_map Hr.out hm)) hn
            have Hno := Lib.hid hno
            clear hno
            have hb0 := Hbt.out 0 (by omega)
            have hb1 := Hbt.out 1 (by omega)
            have hs0 : (0 : Int) < (s.size : Int) := by omega
            have hs1 : (1 : Int) < (s.size : Int) := by omega
            have hjn : (0 : Int) ≤ (j : Int) := by omega
            have hjs : (j : Int) ≤ (s.size : Int) := by omega
            have hjs' : (j : Int) ≤ 240 := by omega
            have hjs2 : j ≤ s.size := by omega
            by_cases h8 : 8 ≤ j
            · have d8 : decide ((j : Int) < 8) = false := by simp; omega
              have d8' : decide (j < 8) = false := by simp; omega
              by_cases h64 : j ≤ 64
              · have d64 : decide ((64 : Int) < (j : Int)) = false := by simp; omega
                have d64' : decide (64 < j) = false := by simp; omega
                have hws : IntKind.i64.wrap (240 - (j : Int)) = ((240 - j : Nat) : Int) := by rw [IntWalk.i64_in _ (by omega)]; omega
                by_cases hE : s.extract j 240 = z
                · have hne : ((s.extract j 240).toList == z.toList) = true := by rw [hE]; simp
                  have HE := Lib.hid (Hcz2.out.1 hE)
                  clear hE
                  by_cases e0 : bt l 0 = 1
                  · have e0' : (bt l 0 != 1) = false := by simpa using e0
                    by_cases e1 : bt l 1 = 1
                    · have e1' : (bt l 1 != 1) = false := by simpa using e1
                      have hpf := Lib.hid (pagesF_map (map_run Hr.out h240 h8 h64 HE.out e0 e1))
                      clear e0 e1
                      go_wp2_with fail
                      refine wp_region_held_drew (S := (fun W' => W'.heap[w.heap.size]? = some (.cells #[.int .i64 2, .int .i64 d, .int .i64 x, .string s] 23 (0, 0)) ∧ Below w.heap.size w W')) (by kernel_rfl) (⟨blp, below_dr hbel⟩) (fun hHeld => ?_)
                      refine wpAnyH_take (i := 0) (v := ?_) rfl (by kernel_rfl) (by kernel_rfl) (by kernel_rfl) (fun _ _ _ h => h) (Or.inl ⟨by kernel_rfl, ?_⟩) hHeld ?_
                      rotate_left
                      · intro wq hSw
                        have hSc := blk_cell hSw.1; have hSl := lt_of_block hSw.1
                        go_simp
                        try rw [if_neg (by omega)]
                        try rw [if_pos (by omega)]
                        try with_reducible rfl
                      try simp only [Act.put, List.getElem_toArray, List.getElem_cons_succ, List.getElem_cons_zero, List.setIfInBounds_toArray, List.set_cons_zero, List.set_cons_succ]
                      refine wpAnyH_take (i := 1) (v := ?_) rfl (by kernel_rfl) (by kernel_rfl) (by kernel_rfl) (fun _ _ _ h => h) (Or.inl ⟨by kernel_rfl, ?_⟩) hHeld ?_
                      rotate_left
                      · intro wq hSw
                        have hSc := blk_cell hSw.1; have hSl := lt_of_block hSw.1
                        go_simp
                        try rw [if_neg (by omega)]
                        try rw [if_pos (by omega)]
                        try with_reducible rfl
                      try simp only [Act.put, List.getElem_toArray, List.getElem_cons_succ, List.getElem_cons_zero, List.setIfInBounds_toArray, List.set_cons_zero, List.set_cons_succ]
                      refine wpAnyH_take (i := 2) (v := ?_) rfl (by kernel_rfl) (by kernel_rfl) (by kernel_rfl) (fun _ _ _ h => h) (Or.inl ⟨by kernel_rfl, ?_⟩) hHeld ?_
                      rotate_left
                      · intro wq hSw
                        have hSc := blk_cell hSw.1; have hSl := lt_of_block hSw.1
                        go_simp
                        try rw [if_neg (by omega)]
                        try rw [if_pos (by omega)]
                        try with_reducible rfl
                      try simp only [Act.put, List.getElem_toArray, List.getElem_cons_succ, List.getElem_cons_zero, List.setIfInBounds_toArray, List.set_cons_zero, List.set_cons_succ]
                      refine wpAnyH_take (i := 3) (v := ?_) rfl (by kernel_rfl) (by kernel_rfl) (by kernel_rfl) (fun _ _ _ h => h) (Or.inl ⟨by kernel_rfl, ?_⟩) hHeld ?_
                      rotate_left
                      · intro wq hSw
                        have hSc := blk_cell hSw.1; have hSl := lt_of_block hSw.1
                        go_simp
                        try rw [if_neg (by omega)]
                        try rw [if_pos (by omega)]
                        try with_reducible rfl
                      try simp only [Act.put, List.getElem_toArray, List.getElem_cons_succ, List.getElem_cons_zero, List.setIfInBounds_toArray, List.set_cons_zero, List.set_cons_succ]
                      refine wpAnyH_take (i := 4) (v := ?_) rfl (by kernel_rfl) (by kernel_rfl) (by kernel_rfl) (fun _ _ _ h => h) (Or.inl ⟨by kernel_rfl, ?_⟩) hHeld ?_
                      rotate_left
                      · intro wq hSw
                        have hSc := blk_cell hSw.1; have hSl := lt_of_block hSw.1
                        go_simp
                        try rw [if_neg (by omega)]
                        try rw [if_pos (by omega)]
                        try with_reducible rfl
                      try simp only [Act.put, List.getElem_toArray, List.getElem_cons_succ, List.getElem_cons_zero, List.setIfInBounds_toArray, List.set_cons_zero, List.set_cons_succ]
                      refine wpAnyH_take (i := 5) (v := ?_) rfl (by kernel_rfl) (by kernel_rfl) (by kernel_rfl) (fun _ _ _ h => h) (Or.inl ⟨by kernel_rfl, ?_⟩) hHeld ?_
                      rotate_left
                      · intro wq hSw
                        have hSc := blk_cell hSw.1; have hSl := lt_of_block hSw.1
                        go_simp
                        try rw [if_neg (by omega)]
                        try rw [if_pos (by omega)]
                        try with_reducible rfl
                      try simp only [Act.put, List.getElem_toArray, List.getElem_cons_succ, List.getElem_cons_zero, List.setIfInBounds_toArray, List.set_cons_zero, List.set_cons_succ]
                      refine wpAnyH_take (i := 6) (v := ?_) rfl (by kernel_rfl) (by kernel_rfl) (by kernel_rfl) (fun _ _ _ h => h) (Or.inl ⟨by kernel_rfl, ?_⟩) hHeld ?_
                      rotate_left
                      · intro wq hSw
                        have hSc := blk_cell hSw.1; have hSl := lt_of_block hSw.1
                        go_simp
                        try rw [if_neg (by omega)]
                        try rw [if_pos (by omega)]
                        try with_reducible rfl
                      try simp only [Act.put, List.getElem_toArray, List.getElem_cons_succ, List.getElem_cons_zero, List.setIfInBounds_toArray, List.set_cons_zero, List.set_cons_succ]
                      refine wpAnyH_take (i := 7) (v := ?_) rfl (by kernel_rfl) (by kernel_rfl) (by kernel_rfl) (fun _ _ _ h => h) (Or.inl ⟨by kernel_rfl, ?_⟩) hHeld ?_
                      rotate_left
                      · intro wq hSw
                        have hSc := blk_cell hSw.1; have hSl := lt_of_block hSw.1
                        go_simp
                        try rw [if_neg (by omega)]
                        try rw [if_pos (by omega)]
                        try with_reducible rfl
                      try simp only [Act.put, List.getElem_toArray, List.getElem_cons_succ, List.getElem_cons_zero, List.setIfInBounds_toArray, List.set_cons_zero, List.set_cons_succ]
                      refine wpAnyH_take (i := 8) (v := ?_) rfl (by kernel_rfl) (by kernel_rfl) (by kernel_rfl) (fun _ _ _ h => h) (Or.inl ⟨by kernel_rfl, ?_⟩) hHeld ?_
                      rotate_left
                      · intro wq hSw
                        have hSc := blk_cell hSw.1; have hSl := lt_of_block hSw.1
                        go_simp
                        try rw [if_neg (by omega)]
                        try rw [if_pos (by omega)]
                        try with_reducible rfl
                      try simp only [Act.put, List.getElem_toArray, List.getElem_cons_succ, List.getElem_cons_zero, List.setIfInBounds_toArray, List.set_cons_zero, List.set_cons_succ]
                      refine wpAnyH_take (i := 9) (v := ?_) rfl (by kernel_rfl) (by kernel_rfl) (by kernel_rfl) (fun _ _ _ h => h) (Or.inl ⟨by kernel_rfl, ?_⟩) hHeld ?_
                      rotate_left
                      · intro wq hSw
                        have hSc := blk_cell hSw.1; have hSl := lt_of_block hSw.1
                        go_simp
                        try rw [if_neg (by omega)]
                        try rw [if_pos (by omega)]
                        try with_reducible rfl
                      try simp only [Act.put, List.getElem_toArray, List.getElem_cons_succ, List.getElem_cons_zero, List.setIfInBounds_toArray, List.set_cons_zero, List.set_cons_succ]
                      refine wpAnyH_take (i := 10) (v := ?_) rfl (by kernel_rfl) (by kernel_rfl) (by kernel_rfl) (fun _ _ _ h => h) (Or.inl ⟨by kernel_rfl, ?_⟩) hHeld ?_
                      rotate_left
                      · intro wq hSw
                        have hSc := blk_cell hSw.1; have hSl := lt_of_block hSw.1
                        go_simp
                        try rw [if_neg (by omega)]
                        try rw [if_pos (by omega)]
                        try with_reducible rfl
                      try simp only [Act.put, List.getElem_toArray, List.getElem_cons_succ, List.getElem_cons_zero, List.setIfInBounds_toArray, List.set_cons_zero, List.set_cons_succ]
                      refine wpAnyH_take (i := 11) (v := ?_) rfl (by kernel_rfl) (by kernel_rfl) (by kernel_rfl) (fun _ _ _ h => h) (Or.inl ⟨by kernel_rfl, ?_⟩) hHeld ?_
                      rotate_left
                      · intro wq hSw
                        have hSc := blk_cell hSw.1; have hSl := lt_of_block hSw.1
                        go_simp
                        try rw [if_neg (by omega)]
                        try rw [if_pos (by omega)]
                        try with_reducible rfl
                      try simp only [Act.put, List.getElem_toArray, List.getElem_cons_succ, List.getElem_cons_zero, List.setIfInBounds_toArray, List.set_cons_zero, List.set_cons_succ]
                      refine wpAnyH_take (i := 12) (v := ?_) rfl (by kernel_rfl) (by kernel_rfl) (by kernel_rfl) (fun _ _ _ h => h) (Or.inl ⟨by kernel_rfl, ?_⟩) hHeld ?_
                      rotate_left
                      · intro wq hSw
                        have hSc := blk_cell hSw.1; have hSl := lt_of_block hSw.1
                        go_simp
                        try rw [if_neg (by omega)]
                        try rw [if_pos (by omega)]
                        try with_reducible rfl
                      try simp only [Act.put, List.getElem_toArray, List.getElem_cons_succ, List.getElem_cons_zero, List.setIfInBounds_toArray, List.set_cons_zero, List.set_cons_succ]
                      refine wpAnyH_ready (rs := [13]) (by kernel_rfl) (by simp) ?_
                      refine AllReadyH.cons rfl (fun K hK => ?_) AllReadyH.nil
                      rw [if_pos (by kernel_rfl)]
                      go_simp
                      with_reducible refine (hz _).mono ?_
                      rintro e w4 ⟨rfl, hb4⟩
                      go_simp
                      refine hK.out _ _ (⟨blk_keep hHeld.1 hb4, below_base hHeld.2 hHeld.2.size hb4⟩) (fun hHeld2 => ?_)
                      clear hK K
                      try clear hHeld
                      have hHeld := hHeld2
                      try clear hHeld2
                      refine wpAnyH_take (i := 14) (v := ?_) rfl (by kernel_rfl) (by kernel_rfl) (by kernel_rfl) (fun _ _ _ h => h) (Or.inl ⟨by kernel_rfl, ?_⟩) hHeld ?_
                      rotate_left
                      · intro wq hSw
                        have hSc := blk_cell hSw.1; have hSl := lt_of_block hSw.1
                        go_simp
                        try rw [if_neg (by omega)]
                        try rw [if_pos (by omega)]
                        try with_reducible rfl
                      try simp only [Act.put, List.getElem_toArray, List.getElem_cons_succ, List.getElem_cons_zero, List.setIfInBounds_toArray, List.set_cons_zero, List.set_cons_succ]
                      refine wpAnyH_take (i := 15) (v := ?_) rfl (by kernel_rfl) (by kernel_rfl) (by kernel_rfl) (fun _ _ _ h => h) (Or.inl ⟨by kernel_rfl, ?_⟩) hHeld ?_
                      rotate_left
                      · intro wq hSw
                        have hSc := blk_cell hSw.1; have hSl := lt_of_block hSw.1
                        go_simp
                        try rw [if_neg (by omega)]
                        try rw [if_pos (by omega)]
                        try with_reducible rfl
                      try simp only [Act.put, List.getElem_toArray, List.getElem_cons_succ, List.getElem_cons_zero, List.setIfInBounds_toArray, List.set_cons_zero, List.set_cons_succ]
                      refine wpAnyH_take (i := 16) (v := ?_) rfl (by kernel_rfl) (by kernel_rfl) (by kernel_rfl) (fun _ _ _ h => h) (Or.inl ⟨by kernel_rfl, ?_⟩) hHeld ?_
                      rotate_left
                      · intro wq hSw
                        have hSc := blk_cell hSw.1; have hSl := lt_of_block hSw.1
                        go_simp
                        try rw [if_neg (by omega)]
                        try rw [if_pos (by omega)]
                        try with_reducible rfl
                      try simp only [Act.put, List.getElem_toArray, List.getElem_cons_succ, List.getElem_cons_zero, List.setIfInBounds_toArray, List.set_cons_zero, List.set_cons_succ]
                      refine wpAnyH_take (i := 17) (v := ?_) rfl (by kernel_rfl) (by kernel_rfl) (by kernel_rfl) (fun _ _ _ h => h) (Or.inl ⟨by kernel_rfl, ?_⟩) hHeld ?_
                      rotate_left
                      · intro wq hSw
                        have hSc := blk_cell hSw.1; have hSl := lt_of_block hSw.1
                        go_simp
                        try rw [if_neg (by omega)]
                        try rw [if_pos (by omega)]
                        try with_reducible rfl
                      try simp only [Act.put, List.getElem_toArray, List.getElem_cons_succ, List.getElem_cons_zero, List.setIfInBounds_toArray, List.set_cons_zero, List.set_cons_succ]
                      refine wpAnyH_take (i := 18) (v := ?_) rfl (by kernel_rfl) (by kernel_rfl) (by kernel_rfl) (fun _ _ _ h => h) (Or.inl ⟨by kernel_rfl, ?_⟩) hHeld ?_
                      rotate_left
                      · intro wq hSw
                        have hSc := blk_cell hSw.1; have hSl := lt_of_block hSw.1
                        go_simp
                        try rw [if_neg (by omega)]
                        try rw [if_pos (by omega)]
                        try with_reducible rfl
                      try simp only [Act.put, List.getElem_toArray, List.getElem_cons_succ, List.getElem_cons_zero, List.setIfInBounds_toArray, List.set_cons_zero, List.set_cons_succ]
                      refine wpAnyH_take (i := 19) (v := ?_) rfl (by kernel_rfl) (by kernel_rfl) (by kernel_rfl) (fun _ _ _ h => h) (Or.inl ⟨by kernel_rfl, ?_⟩) hHeld ?_
                      rotate_left
                      · intro wq hSw
                        have hSc := blk_cell hSw.1; have hSl := lt_of_block hSw.1
                        go_simp
                        try rw [if_neg (by omega)]
                        try rw [if_pos (by omega)]
                        try with_reducible rfl
                      try simp only [Act.put, List.getElem_toArray, List.getElem_cons_succ, List.getElem_cons_zero, List.setIfInBounds_toArray, List.set_cons_zero, List.set_cons_succ]
                      refine wpAnyH_take (i := 20) (v := ?_) rfl (by kernel_rfl) (by kernel_rfl) (by kernel_rfl) (fun _ _ _ h => h) (Or.inl ⟨by kernel_rfl, ?_⟩) hHeld ?_
                      rotate_left
                      · intro wq hSw
                        have hSc := blk_cell hSw.1; have hSl := lt_of_block hSw.1
                        go_simp
                        try rw [if_neg (by omega)]
                        try rw [if_pos (by omega)]
                        try with_reducible rfl
                      try simp only [Act.put, List.getElem_toArray, List.getElem_cons_succ, List.getElem_cons_zero, List.setIfInBounds_toArray, List.set_cons_zero, List.set_cons_succ]
                      refine wpAnyH_take (i := 21) (v := ?_) rfl (by kernel_rfl) (by kernel_rfl) (by kernel_rfl) (fun _ _ _ h => h) (Or.inl ⟨by kernel_rfl, ?_⟩) hHeld ?_
                      rotate_left
                      · intro wq hSw
                        have hSc := blk_cell hSw.1; have hSl := lt_of_block hSw.1
                        go_simp
                        try rw [if_neg (by omega)]
                        try rw [if_pos (by omega)]
                        try with_reducible rfl
                      try simp only [Act.put, List.getElem_toArray, List.getElem_cons_succ, List.getElem_cons_zero, List.setIfInBounds_toArray, List.set_cons_zero, List.set_cons_succ]
                      refine wpAnyH_take (i := 22) (v := ?_) rfl (by kernel_rfl) (by kernel_rfl) (by kernel_rfl) (fun _ _ _ h => h) (Or.inl ⟨by kernel_rfl, ?_⟩) hHeld ?_
                      rotate_left
                      · intro wq hSw
                        have hSc := blk_cell hSw.1; have hSl := lt_of_block hSw.1
                        go_simp
                        try rw [if_neg (by omega)]
                        try rw [if_pos (by omega)]
                        try with_reducible rfl
                      try simp only [Act.put, List.getElem_toArray, List.getElem_cons_succ, List.getElem_cons_zero, List.setIfInBounds_toArray, List.set_cons_zero, List.set_cons_succ]
                      refine wpAnyH_take (i := 23) (v := ?_) rfl (by kernel_rfl) (by kernel_rfl) (by kernel_rfl) (fun _ _ _ h => h) (Or.inl ⟨by kernel_rfl, ?_⟩) hHeld ?_
                      rotate_left
                      · intro wq hSw
                        have hSc := blk_cell hSw.1; have hSl := lt_of_block hSw.1
                        go_simp
                        try rw [if_neg (by omega)]
                        try rw [if_pos (by omega)]
                        try with_reducible rfl
                      try simp only [Act.put, List.getElem_toArray, List.getElem_cons_succ, List.getElem_cons_zero, List.setIfInBounds_toArray, List.set_cons_zero, List.set_cons_succ]
                      refine wpAnyH_take (i := 24) (v := ?_) rfl (by kernel_rfl) (by kernel_rfl) (by kernel_rfl) (fun _ _ _ h => h) (Or.inl ⟨by kernel_rfl, ?_⟩) hHeld ?_
                      rotate_left
                      · intro wq hSw
                        have hSc := blk_cell hSw.1; have hSl := lt_of_block hSw.1
                        go_simp
                        try rw [if_neg (by omega)]
                        try rw [if_pos (by omega)]
                        try with_reducible rfl
                      try simp only [Act.put, List.getElem_toArray, List.getElem_cons_succ, List.getElem_cons_zero, List.setIfInBounds_toArray, List.set_cons_zero, List.set_cons_succ]
                      refine wpAnyH_take (i := 25) (v := ?_) rfl (by kernel_rfl) (by kernel_rfl) (by kernel_rfl) (fun _ _ _ h => h) (Or.inl ⟨by kernel_rfl, ?_⟩) hHeld ?_
                      rotate_left
                      · intro wq hSw
                        have hSc := blk_cell hSw.1; have hSl := lt_of_block hSw.1
                        go_simp
                        try rw [if_neg (by omega)]
                        try rw [if_pos (by omega)]
                        try with_reducible rfl
                      try simp only [Act.put, List.getElem_toArray, List.getElem_cons_succ, List.getElem_cons_zero, List.setIfInBounds_toArray, List.set_cons_zero, List.set_cons_succ]
                      refine wpAnyH_take (i := 26) (v := ?_) rfl (by kernel_rfl) (by kernel_rfl) (by kernel_rfl) (fun _ _ _ h => h) (Or.inl ⟨by kernel_rfl, ?_⟩) hHeld ?_
                      rotate_left
                      · intro wq hSw
                        have hSc := blk_cell hSw.1; have hSl := lt_of_block hSw.1
                        go_simp
                        try rw [if_neg (by omega)]
                        try rw [if_pos (by omega)]
                        try with_reducible rfl
                      try simp only [Act.put, List.getElem_toArray, List.getElem_cons_succ, List.getElem_cons_zero, List.setIfInBounds_toArray, List.set_cons_zero, List.set_cons_succ]
                      refine wpAnyH_take (i := 27) (v := ?_) rfl (by kernel_rfl) (by kernel_rfl) (by kernel_rfl) (fun _ _ _ h => h) (Or.inl ⟨by kernel_rfl, ?_⟩) hHeld ?_
                      rotate_left
                      · intro wq hSw
                        have hSc := blk_cell hSw.1; have hSl := lt_of_block hSw.1
                        go_simp
                        try rw [if_neg (by omega)]
                        try rw [if_pos (by omega)]
                        try with_reducible rfl
                      try simp only [Act.put, List.getElem_toArray, List.getElem_cons_succ, List.getElem_cons_zero, List.setIfInBounds_toArray, List.set_cons_zero, List.set_cons_succ]
                      refine wpAnyH_done (by kernel_rfl) ?_ _
                      go_wp2_with fail
                      go_ret
                      exact ⟨by first | (rw [hpf.out]; rfl) | rw [hpf.out], hHeld.2⟩
                    · have e1' : (bt l 1 != 1) = true := by simpa using e1
                      have hpf := Lib.hid (Hno.out (bt l 1 = 1) (fun n hm _ => hm.b1) e1)
                      clear e0 e1
                      go_wp2_with fail
                      refine wp_region_held_drew (S := (fun W' => W'.heap[w.heap.size]? = some (.cells #[.int .i64 2, .int .i64 d, .int .i64 x, .string s] 23 (0, 0)) ∧ Below w.heap.size w W')) (by kernel_rfl) (⟨blp, below_dr hbel⟩) (fun hHeld => ?_)
                      refine wpAnyH_take (i := 0) (v := ?_) rfl (by kernel_rfl) (by kernel_rfl) (by kernel_rfl) (fun _ _ _ h => h) (Or.inl ⟨by kernel_rfl, ?_⟩) hHeld ?_
                      rotate_left
                      · intro wq hSw
                        have hSc := blk_cell hSw.1; have hSl := lt_of_block hSw.1
                        go_simp
                        try rw [if_neg (by omega)]
                        try rw [if_pos (by omega)]
                        try with_reducible rfl
                      try simp only [Act.put, List.getElem_toArray, List.getElem_cons_succ, List.getElem_cons_zero, List.setIfInBounds_toArray, List.set_cons_zero, List.set_cons_succ]
                      refine wpAnyH_take (i := 1) (v := ?_) rfl (by kernel_rfl) (by kernel_rfl) (by kernel_rfl) (fun _ _ _ h => h) (Or.inl ⟨by kernel_rfl, ?_⟩) hHeld ?_
                      rotate_left
                      · intro wq hSw
                        have hSc := blk_cell hSw.1; have hSl := lt_of_block hSw.1
                        go_simp
                        try rw [if_neg (by omega)]
                        try rw [if_pos (by omega)]
                        try with_reducible rfl
                      try simp only [Act.put, List.getElem_toArray, List.getElem_cons_succ, List.getElem_cons_zero, List.setIfInBounds_toArray, List.set_cons_zero, List.set_cons_succ]
                      refine wpAnyH_take (i := 2) (v := ?_) rfl (by kernel_rfl) (by kernel_rfl) (by kernel_rfl) (fun _ _ _ h => h) (Or.inl ⟨by kernel_rfl, ?_⟩) hHeld ?_
                      rotate_left
                      · intro wq hSw
                        have hSc := blk_cell hSw.1; have hSl := lt_of_block hSw.1
                        go_simp
                        try rw [if_neg (by omega)]
                        try rw [if_pos (by omega)]
                        try with_reducible rfl
                      try simp only [Act.put, List.getElem_toArray, List.getElem_cons_succ, List.getElem_cons_zero, List.setIfInBounds_toArray, List.set_cons_zero, List.set_cons_succ]
                      refine wpAnyH_take (i := 3) (v := ?_) rfl (by kernel_rfl) (by kernel_rfl) (by kernel_rfl) (fun _ _ _ h => h) (Or.inl ⟨by kernel_rfl, ?_⟩) hHeld ?_
                      rotate_left
                      · intro wq hSw
                        have hSc := blk_cell hSw.1; have hSl := lt_of_block hSw.1
                        go_simp
                        try rw [if_neg (by omega)]
                        try rw [if_pos (by omega)]
                        try with_reducible rfl
                      try simp only [Act.put, List.getElem_toArray, List.getElem_cons_succ, List.getElem_cons_zero, List.setIfInBounds_toArray, List.set_cons_zero, List.set_cons_succ]
                      refine wpAnyH_take (i := 4) (v := ?_) rfl (by kernel_rfl) (by kernel_rfl) (by kernel_rfl) (fun _ _ _ h => h) (Or.inl ⟨by kernel_rfl, ?_⟩) hHeld ?_
                      rotate_left
                      · intro wq hSw
                        have hSc := blk_cell hSw.1; have hSl := lt_of_block hSw.1
                        go_simp
                        try rw [if_neg (by omega)]
                        try rw [if_pos (by omega)]
                        try with_reducible rfl
                      try simp only [Act.put, List.getElem_toArray, List.getElem_cons_succ, List.getElem_cons_zero, List.setIfInBounds_toArray, List.set_cons_zero, List.set_cons_succ]
                      refine wpAnyH_take (i := 5) (v := ?_) rfl (by kernel_rfl) (by kernel_rfl) (by kernel_rfl) (fun _ _ _ h => h) (Or.inl ⟨by kernel_rfl, ?_⟩) hHeld ?_
                      rotate_left
                      · intro wq hSw
                        have hSc := blk_cell hSw.1; have hSl := lt_of_block hSw.1
                        go_simp
                        try rw [if_neg (by omega)]
                        try rw [if_pos (by omega)]
                        try with_reducible rfl
                      try simp only [Act.put, List.getElem_toArray, List.getElem_cons_succ, List.getElem_cons_zero, List.setIfInBounds_toArray, List.set_cons_zero, List.set_cons_succ]
                      refine wpAnyH_take (i := 6) (v := ?_) rfl (by kernel_rfl) (by kernel_rfl) (by kernel_rfl) (fun _ _ _ h => h) (Or.inl ⟨by kernel_rfl, ?_⟩) hHeld ?_
                      rotate_left
                      · intro wq hSw
                        have hSc := blk_cell hSw.1; have hSl := lt_of_block hSw.1
                        go_simp
                        try rw [if_neg (by omega)]
                        try rw [if_pos (by omega)]
                        try with_reducible rfl
                      try simp only [Act.put, List.getElem_toArray, List.getElem_cons_succ, List.getElem_cons_zero, List.setIfInBounds_toArray, List.set_cons_zero, List.set_cons_succ]
                      refine wpAnyH_take (i := 7) (v := ?_) rfl (by kernel_rfl) (by kernel_rfl) (by kernel_rfl) (fun _ _ _ h => h) (Or.inl ⟨by kernel_rfl, ?_⟩) hHeld ?_
                      rotate_left
                      · intro wq hSw
                        have hSc := blk_cell hSw.1; have hSl := lt_of_block hSw.1
                        go_simp
                        try rw [if_neg (by omega)]
                        try rw [if_pos (by omega)]
                        try with_reducible rfl
                      try simp only [Act.put, List.getElem_toArray, List.getElem_cons_succ, List.getElem_cons_zero, List.setIfInBounds_toArray, List.set_cons_zero, List.set_cons_succ]
                      refine wpAnyH_take (i := 8) (v := ?_) rfl (by kernel_rfl) (by kernel_rfl) (by kernel_rfl) (fun _ _ _ h => h) (Or.inl ⟨by kernel_rfl, ?_⟩) hHeld ?_
                      rotate_left
                      · intro wq hSw
                        have hSc := blk_cell hSw.1; have hSl := lt_of_block hSw.1
                        go_simp
                        try rw [if_neg (by omega)]
                        try rw [if_pos (by omega)]
                        try with_reducible rfl
                      try simp only [Act.put, List.getElem_toArray, List.getElem_cons_succ, List.getElem_cons_zero, List.setIfInBounds_toArray, List.set_cons_zero, List.set_cons_succ]
                      refine wpAnyH_take (i := 9) (v := ?_) rfl (by kernel_rfl) (by kernel_rfl) (by kernel_rfl) (fun _ _ _ h => h) (Or.inl ⟨by kernel_rfl, ?_⟩) hHeld ?_
                      rotate_left
                      · intro wq hSw
                        have hSc := blk_cell hSw.1; have hSl := lt_of_block hSw.1
                        go_simp
                        try rw [if_neg (by omega)]
                        try rw [if_pos (by omega)]
                        try with_reducible rfl
                      try simp only [Act.put, List.getElem_toArray, List.getElem_cons_succ, List.getElem_cons_zero, List.setIfInBounds_toArray, List.set_cons_zero, List.set_cons_succ]
                      refine wpAnyH_take (i := 10) (v := ?_) rfl (by kernel_rfl) (by kernel_rfl) (by kernel_rfl) (fun _ _ _ h => h) (Or.inl ⟨by kernel_rfl, ?_⟩) hHeld ?_
                      rotate_left
                      · intro wq hSw
                        have hSc := blk_cell hSw.1; have hSl := lt_of_block hSw.1
                        go_simp
                        try rw [if_neg (by omega)]
                        try rw [if_pos (by omega)]
                        try with_reducible rfl
                      try simp only [Act.put, List.getElem_toArray, List.getElem_cons_succ, List.getElem_cons_zero, List.setIfInBounds_toArray, List.set_cons_zero, List.set_cons_succ]
                      refine wpAnyH_take (i := 11) (v := ?_) rfl (by kernel_rfl) (by kernel_rfl) (by kernel_rfl) (fun _ _ _ h => h) (Or.inl ⟨by kernel_rfl, ?_⟩) hHeld ?_
                      rotate_left
                      · intro wq hSw
                        have hSc := blk_cell hSw.1; have hSl := lt_of_block hSw.1
                        go_simp
                        try rw [if_neg (by omega)]
                        try rw [if_pos (by omega)]
                        try with_reducible rfl
                      try simp only [Act.put, List.getElem_toArray, List.getElem_cons_succ, List.getElem_cons_zero, List.setIfInBounds_toArray, List.set_cons_zero, List.set_cons_succ]
                      refine wpAnyH_take (i := 12) (v := ?_) rfl (by kernel_rfl) (by kernel_rfl) (by kernel_rfl) (fun _ _ _ h => h) (Or.inl ⟨by kernel_rfl, ?_⟩) hHeld ?_
                      rotate_left
                      · intro wq hSw
                        have hSc := blk_cell hSw.1; have hSl := lt_of_block hSw.1
                        go_simp
                        try rw [if_neg (by omega)]
                        try rw [if_pos (by omega)]
                        try with_reducible rfl
                      try simp only [Act.put, List.getElem_toArray, List.getElem_cons_succ, List.getElem_cons_zero, List.setIfInBounds_toArray, List.set_cons_zero, List.set_cons_succ]
                      refine wpAnyH_ready (rs := [13]) (by kernel_rfl) (by simp) ?_
                      refine AllReadyH.cons rfl (fun K hK => ?_) AllReadyH.nil
                      rw [if_pos (by kernel_rfl)]
                      go_simp
                      with_reducible refine (hz _).mono ?_
                      rintro e w4 ⟨rfl, hb4⟩
                      go_simp
                      refine hK.out _ _ (⟨blk_keep hHeld.1 hb4, below_base hHeld.2 hHeld.2.size hb4⟩) (fun hHeld2 => ?_)
                      clear hK K
                      try clear hHeld
                      have hHeld := hHeld2
                      try clear hHeld2
                      refine wpAnyH_take (i := 14) (v := ?_) rfl (by kernel_rfl) (by kernel_rfl) (by kernel_rfl) (fun _ _ _ h => h) (Or.inl ⟨by kernel_rfl, ?_⟩) hHeld ?_
                      rotate_left
                      · intro wq hSw
                        have hSc := blk_cell hSw.1; have hSl := lt_of_block hSw.1
                        go_simp
                        try rw [if_neg (by omega)]
                        try rw [if_pos (by omega)]
                        try with_reducible rfl
                      try simp only [Act.put, List.getElem_toArray, List.getElem_cons_succ, List.getElem_cons_zero, List.setIfInBounds_toArray, List.set_cons_zero, List.set_cons_succ]
                      refine wpAnyH_take (i := 15) (v := ?_) rfl (by kernel_rfl) (by kernel_rfl) (by kernel_rfl) (fun _ _ _ h => h) (Or.inl ⟨by kernel_rfl, ?_⟩) hHeld ?_
                      rotate_left
                      · intro wq hSw
                        have hSc := blk_cell hSw.1; have hSl := lt_of_block hSw.1
                        go_simp
                        try rw [if_neg (by omega)]
                        try rw [if_pos (by omega)]
                        try with_reducible rfl
                      try simp only [Act.put, List.getElem_toArray, List.getElem_cons_succ, List.getElem_cons_zero, List.setIfInBounds_toArray, List.set_cons_zero, List.set_cons_succ]
                      refine wpAnyH_take (i := 16) (v := ?_) rfl (by kernel_rfl) (by kernel_rfl) (by kernel_rfl) (fun _ _ _ h => h) (Or.inl ⟨by kernel_rfl, ?_⟩) hHeld ?_
                      rotate_left
                      · intro wq hSw
                        have hSc := blk_cell hSw.1; have hSl := lt_of_block hSw.1
                        go_simp
                        try rw [if_neg (by omega)]
                        try rw [if_pos (by omega)]
                        try with_reducible rfl
                      try simp only [Act.put, List.getElem_toArray, List.getElem_cons_succ, List.getElem_cons_zero, List.setIfInBounds_toArray, List.set_cons_zero, List.set_cons_succ]
                      refine wpAnyH_take (i := 17) (v := ?_) rfl (by kernel_rfl) (by kernel_rfl) (by kernel_rfl) (fun _ _ _ h => h) (Or.inl ⟨by kernel_rfl, ?_⟩) hHeld ?_
                      rotate_left
                      · intro wq hSw
                        have hSc := blk_cell hSw.1; have hSl := lt_of_block hSw.1
                        go_simp
                        try rw [if_neg (by omega)]
                        try rw [if_pos (by omega)]
                        try with_reducible rfl
                      try simp only [Act.put, List.getElem_toArray, List.getElem_cons_succ, List.getElem_cons_zero, List.setIfInBounds_toArray, List.set_cons_zero, List.set_cons_succ]
                      refine wpAnyH_take (i := 18) (v := ?_) rfl (by kernel_rfl) (by kernel_rfl) (by kernel_rfl) (fun _ _ _ h => h) (Or.inl ⟨by kernel_rfl, ?_⟩) hHeld ?_
                      rotate_left
                      · intro wq hSw
                        have hSc := blk_cell hSw.1; have hSl := lt_of_block hSw.1
                        go_simp
                        try rw [if_neg (by omega)]
                        try rw [if_pos (by omega)]
                        try with_reducible rfl
                      try simp only [Act.put, List.getElem_toArray, List.getElem_cons_succ, List.getElem_cons_zero, List.setIfInBounds_toArray, List.set_cons_zero, List.set_cons_succ]
                      refine wpAnyH_take (i := 19) (v := ?_) rfl (by kernel_rfl) (by kernel_rfl) (by kernel_rfl) (fun _ _ _ h => h) (Or.inl ⟨by kernel_rfl, ?_⟩) hHeld ?_
                      rotate_left
                      · intro wq hSw
                        have hSc := blk_cell hSw.1; have hSl := lt_of_block hSw.1
                        go_simp
                        try rw [if_neg (by omega)]
                        try rw [if_pos (by omega)]
                        try with_reducible rfl
                      try simp only [Act.put, List.getElem_toArray, List.getElem_cons_succ, List.getElem_cons_zero, List.setIfInBounds_toArray, List.set_cons_zero, List.set_cons_succ]
                      refine wpAnyH_take (i := 20) (v := ?_) rfl (by kernel_rfl) (by kernel_rfl) (by kernel_rfl) (fun _ _ _ h => h) (Or.inl ⟨by kernel_rfl, ?_⟩) hHeld ?_
                      rotate_left
                      · intro wq hSw
                        have hSc := blk_cell hSw.1; have hSl := lt_of_block hSw.1
                        go_simp
                        try rw [if_neg (by omega)]
                        try rw [if_pos (by omega)]
                        try with_reducible rfl
                      try simp only [Act.put, List.getElem_toArray, List.getElem_cons_succ, List.getElem_cons_zero, List.setIfInBounds_toArray, List.set_cons_zero, List.set_cons_succ]
                      refine wpAnyH_take (i := 21) (v := ?_) rfl (by kernel_rfl) (by kernel_rfl) (by kernel_rfl) (fun _ _ _ h => h) (Or.inl ⟨by kernel_rfl, ?_⟩) hHeld ?_
                      rotate_left
                      · intro wq hSw
                        have hSc := blk_cell hSw.1; have hSl := lt_of_block hSw.1
                        go_simp
                        try rw [if_neg (by omega)]
                        try rw [if_pos (by omega)]
                        try with_reducible rfl
                      try simp only [Act.put, List.getElem_toArray, List.getElem_cons_succ, List.getElem_cons_zero, List.setIfInBounds_toArray, List.set_cons_zero, List.set_cons_succ]
                      refine wpAnyH_take (i := 22) (v := ?_) rfl (by kernel_rfl) (by kernel_rfl) (by kernel_rfl) (fun _ _ _ h => h) (Or.inl ⟨by kernel_rfl, ?_⟩) hHeld ?_
                      rotate_left
                      · intro wq hSw
                        have hSc := blk_cell hSw.1; have hSl := lt_of_block hSw.1
                        go_simp
                        try rw [if_neg (by omega)]
                        try rw [if_pos (by omega)]
                        try with_reducible rfl
                      try simp only [Act.put, List.getElem_toArray, List.getElem_cons_succ, List.getElem_cons_zero, List.setIfInBounds_toArray, List.set_cons_zero, List.set_cons_succ]
                      refine wpAnyH_take (i := 23) (v := ?_) rfl (by kernel_rfl) (by kernel_rfl) (by kernel_rfl) (fun _ _ _ h => h) (Or.inl ⟨by kernel_rfl, ?_⟩) hHeld ?_
                      rotate_left
                      · intro wq hSw
                        have hSc := blk_cell hSw.1; have hSl := lt_of_block hSw.1
                        go_simp
                        try rw [if_neg (by omega)]
                        try rw [if_pos (by omega)]
                        try with_reducible rfl
                      try simp only [Act.put, List.getElem_toArray, List.getElem_cons_succ, List.getElem_cons_zero, List.setIfInBounds_toArray, List.set_cons_zero, List.set_cons_succ]
                      refine wpAnyH_take (i := 24) (v := ?_) rfl (by kernel_rfl) (by kernel_rfl) (by kernel_rfl) (fun _ _ _ h => h) (Or.inl ⟨by kernel_rfl, ?_⟩) hHeld ?_
                      rotate_left
                      · intro wq hSw
                        have hSc := blk_cell hSw.1; have hSl := lt_of_block hSw.1
                        go_simp
                        try rw [if_neg (by omega)]
                        try rw [if_pos (by omega)]
                        try with_reducible rfl
                      try simp only [Act.put, List.getElem_toArray, List.getElem_cons_succ, List.getElem_cons_zero, List.setIfInBounds_toArray, List.set_cons_zero, List.set_cons_succ]
                      refine wpAnyH_take (i := 25) (v := ?_) rfl (by kernel_rfl) (by kernel_rfl) (by kernel_rfl) (fun _ _ _ h => h) (Or.inl ⟨by kernel_rfl, ?_⟩) hHeld ?_
                      rotate_left
                      · intro wq hSw
                        have hSc := blk_cell hSw.1; have hSl := lt_of_block hSw.1
                        go_simp
                        try rw [if_neg (by omega)]
                        try rw [if_pos (by omega)]
                        try with_reducible rfl
                      try simp only [Act.put, List.getElem_toArray, List.getElem_cons_succ, List.getElem_cons_zero, List.setIfInBounds_toArray, List.set_cons_zero, List.set_cons_succ]
                      refine wpAnyH_take (i := 26) (v := ?_) rfl (by kernel_rfl) (by kernel_rfl) (by kernel_rfl) (fun _ _ _ h => h) (Or.inl ⟨by kernel_rfl, ?_⟩) hHeld ?_
                      rotate_left
                      · intro wq hSw
                        have hSc := blk_cell hSw.1; have hSl := lt_of_block hSw.1
                        go_simp
                        try rw [if_neg (by omega)]
                        try rw [if_pos (by omega)]
                        try with_reducible rfl
                      try simp only [Act.put, List.getElem_toArray, List.getElem_cons_succ, List.getElem_cons_zero, List.setIfInBounds_toArray, List.set_cons_zero, List.set_cons_succ]
                      refine wpAnyH_take (i := 27) (v := ?_) rfl (by kernel_rfl) (by kernel_rfl) (by kernel_rfl) (fun _ _ _ h => h) (Or.inl ⟨by kernel_rfl, ?_⟩) hHeld ?_
                      rotate_left
                      · intro wq hSw
                        have hSc := blk_cell hSw.1; have hSl := lt_of_block hSw.1
                        go_simp
                        try rw [if_neg (by omega)]
                        try rw [if_pos (by omega)]
                        try with_reducible rfl
                      try simp only [Act.put, List.getElem_toArray, List.getElem_cons_succ, List.getElem_cons_zero, List.setIfInBounds_toArray, List.set_cons_zero, List.set_cons_succ]
                      refine wpAnyH_done (by kernel_rfl) ?_ _
                      go_wp2_with fail
                      go_ret
                      exact ⟨by first | (rw [hpf.out]; rfl) | rw [hpf.out], hHeld.2⟩
                  · have e0' : (bt l 0 != 1) = true := by simpa using e0
                    have hpf := Lib.hid (Hno.out (bt l 0 = 1) (fun n hm _ => hm.b0) e0)
                    clear e0
                    go_wp2_with fail
                    refine wp_region_held_drew (S := (fun W' => W'.heap[w.heap.size]? = some (.cells #[.int .i64 2, .int .i64 d, .int .i64 x, .string s] 23 (0, 0)) ∧ Below w.heap.size w W')) (by kernel_rfl) (⟨blp, below_dr hbel⟩) (fun hHeld => ?_)
                    refine wpAnyH_take (i := 0) (v := ?_) rfl (by kernel_rfl) (by kernel_rfl) (by kernel_rfl) (fun _ _ _ h => h) (Or.inl ⟨by kernel_rfl, ?_⟩) hHeld ?_
                    rotate_left
                    · intro wq hSw
                      have hSc := blk_cell hSw.1; have hSl := lt_of_block hSw.1
                      go_simp
                      try rw [if_neg (by omega)]
                      try rw [if_pos (by omega)]
                      try with_reducible rfl
                    try simp only [Act.put, List.getElem_toArray, List.getElem_cons_succ, List.getElem_cons_zero, List.setIfInBounds_toArray, List.set_cons_zero, List.set_cons_succ]
                    refine wpAnyH_take (i := 1) (v := ?_) rfl (by kernel_rfl) (by kernel_rfl) (by kernel_rfl) (fun _ _ _ h => h) (Or.inl ⟨by kernel_rfl, ?_⟩) hHeld ?_
                    rotate_left
                    · intro wq hSw
                      have hSc := blk_cell hSw.1; have hSl := lt_of_block hSw.1
                      go_simp
                      try rw [if_neg (by omega)]
                      try rw [if_pos (by omega)]
                      try with_reducible rfl
                    try simp only [Act.put, List.getElem_toArray, List.getElem_cons_succ, List.getElem_cons_zero, List.setIfInBounds_toArray, List.set_cons_zero, List.set_cons_succ]
                    refine wpAnyH_take (i := 2) (v := ?_) rfl (by kernel_rfl) (by kernel_rfl) (by kernel_rfl) (fun _ _ _ h => h) (Or.inl ⟨by kernel_rfl, ?_⟩) hHeld ?_
                    rotate_left
                    · intro wq hSw
                      have hSc := blk_cell hSw.1; have hSl := lt_of_block hSw.1
                      go_simp
                      try rw [if_neg (by omega)]
                      try rw [if_pos (by omega)]
                      try with_reducible rfl
                    try simp only [Act.put, List.getElem_toArray, List.getElem_cons_succ, List.getElem_cons_zero, List.setIfInBounds_toArray, List.set_cons_zero, List.set_cons_succ]
                    refine wpAnyH_take (i := 3) (v := ?_) rfl (by kernel_rfl) (by kernel_rfl) (by kernel_rfl) (fun _ _ _ h => h) (Or.inl ⟨by kernel_rfl, ?_⟩) hHeld ?_
                    rotate_left
                    · intro wq hSw
                      have hSc := blk_cell hSw.1; have hSl := lt_of_block hSw.1
                      go_simp
                      try rw [if_neg (by omega)]
                      try rw [if_pos (by omega)]
                      try with_reducible rfl
                    try simp only [Act.put, List.getElem_toArray, List.getElem_cons_succ, List.getElem_cons_zero, List.setIfInBounds_toArray, List.set_cons_zero, List.set_cons_succ]
                    refine wpAnyH_take (i := 4) (v := ?_) rfl (by kernel_rfl) (by kernel_rfl) (by kernel_rfl) (fun _ _ _ h => h) (Or.inl ⟨by kernel_rfl, ?_⟩) hHeld ?_
                    rotate_left
                    · intro wq hSw
                      have hSc := blk_cell hSw.1; have hSl := lt_of_block hSw.1
                      go_simp
                      try rw [if_neg (by omega)]
                      try rw [if_pos (by omega)]
                      try with_reducible rfl
                    try simp only [Act.put, List.getElem_toArray, List.getElem_cons_succ, List.getElem_cons_zero, List.setIfInBounds_toArray, List.set_cons_zero, List.set_cons_succ]
                    refine wpAnyH_take (i := 5) (v := ?_) rfl (by kernel_rfl) (by kernel_rfl) (by kernel_rfl) (fun _ _ _ h => h) (Or.inl ⟨by kernel_rfl, ?_⟩) hHeld ?_
                    rotate_left
                    · intro wq hSw
                      have hSc := blk_cell hSw.1; have hSl := lt_of_block hSw.1
                      go_simp
                      try rw [if_neg (by omega)]
                      try rw [if_pos (by omega)]
                      try with_reducible rfl
                    try simp only [Act.put, List.getElem_toArray, List.getElem_cons_succ, List.getElem_cons_zero, List.setIfInBounds_toArray, List.set_cons_zero, List.set_cons_succ]
                    refine wpAnyH_take (i := 6) (v := ?_) rfl (by kernel_rfl) (by kernel_rfl) (by kernel_rfl) (fun _ _ _ h => h) (Or.inl ⟨by kernel_rfl, ?_⟩) hHeld ?_
                    rotate_left
                    · intro wq hSw
                      have hSc := blk_cell hSw.1; have hSl := lt_of_block hSw.1
                      go_simp
                      try rw [if_neg (by omega)]
                      try rw [if_pos (by omega)]
                      try with_reducible rfl
                    try simp only [Act.put, List.getElem_toArray, List.getElem_cons_succ, List.getElem_cons_zero, List.setIfInBounds_toArray, List.set_cons_zero, List.set_cons_succ]
                    refine wpAnyH_take (i := 7) (v := ?_) rfl (by kernel_rfl) (by kernel_rfl) (by kernel_rfl) (fun _ _ _ h => h) (Or.inl ⟨by kernel_rfl, ?_⟩) hHeld ?_
                    rotate_left
                    · intro wq hSw
                      have hSc := blk_cell hSw.1; have hSl := lt_of_block hSw.1
                      go_simp
                      try rw [if_neg (by omega)]
                      try rw [if_pos (by omega)]
                      try with_reducible rfl
                    try simp only [Act.put, List.getElem_toArray, List.getElem_cons_succ, List.getElem_cons_zero, List.setIfInBounds_toArray, List.set_cons_zero, List.set_cons_succ]
                    refine wpAnyH_take (i := 8) (v := ?_) rfl (by kernel_rfl) (by kernel_rfl) (by kernel_rfl) (fun _ _ _ h => h) (Or.inl ⟨by kernel_rfl, ?_⟩) hHeld ?_
                    rotate_left
                    · intro wq hSw
                      have hSc := blk_cell hSw.1; have hSl := lt_of_block hSw.1
                      go_simp
                      try rw [if_neg (by omega)]
                      try rw [if_pos (by omega)]
                      try with_reducible rfl
                    try simp only [Act.put, List.getElem_toArray, List.getElem_cons_succ, List.getElem_cons_zero, List.setIfInBounds_toArray, List.set_cons_zero, List.set_cons_succ]
                    refine wpAnyH_take (i := 9) (v := ?_) rfl (by kernel_rfl) (by kernel_rfl) (by kernel_rfl) (fun _ _ _ h => h) (Or.inl ⟨by kernel_rfl, ?_⟩) hHeld ?_
                    rotate_left
                    · intro wq hSw
                      have hSc := blk_cell hSw.1; have hSl := lt_of_block hSw.1
                      go_simp
                      try rw [if_neg (by omega)]
                      try rw [if_pos (by omega)]
                      try with_reducible rfl
                    try simp only [Act.put, List.getElem_toArray, List.getElem_cons_succ, List.getElem_cons_zero, List.setIfInBounds_toArray, List.set_cons_zero, List.set_cons_succ]
                    refine wpAnyH_take (i := 10) (v := ?_) rfl (by kernel_rfl) (by kernel_rfl) (by kernel_rfl) (fun _ _ _ h => h) (Or.inl ⟨by kernel_rfl, ?_⟩) hHeld ?_
                    rotate_left
                    · intro wq hSw
                      have hSc := blk_cell hSw.1; have hSl := lt_of_block hSw.1
                      go_simp
                      try rw [if_neg (by omega)]
                      try rw [if_pos (by omega)]
                      try with_reducible rfl
                    try simp only [Act.put, List.getElem_toArray, List.getElem_cons_succ, List.getElem_cons_zero, List.setIfInBounds_toArray, List.set_cons_zero, List.set_cons_succ]
                    refine wpAnyH_take (i := 11) (v := ?_) rfl (by kernel_rfl) (by kernel_rfl) (by kernel_rfl) (fun _ _ _ h => h) (Or.inl ⟨by kernel_rfl, ?_⟩) hHeld ?_
                    rotate_left
                    · intro wq hSw
                      have hSc := blk_cell hSw.1; have hSl := lt_of_block hSw.1
                      go_simp
                      try rw [if_neg (by omega)]
                      try rw [if_pos (by omega)]
                      try with_reducible rfl
                    try simp only [Act.put, List.getElem_toArray, List.getElem_cons_succ, List.getElem_cons_zero, List.setIfInBounds_toArray, List.set_cons_zero, List.set_cons_succ]
                    refine wpAnyH_take (i := 12) (v := ?_) rfl (by kernel_rfl) (by kernel_rfl) (by kernel_rfl) (fun _ _ _ h => h) (Or.inl ⟨by kernel_rfl, ?_⟩) hHeld ?_
                    rotate_left
                    · intro wq hSw
                      have hSc := blk_cell hSw.1; have hSl := lt_of_block hSw.1
                      go_simp
                      try rw [if_neg (by omega)]
                      try rw [if_pos (by omega)]
                      try with_reducible rfl
                    try simp only [Act.put, List.getElem_toArray, List.getElem_cons_succ, List.getElem_cons_zero, List.setIfInBounds_toArray, List.set_cons_zero, List.set_cons_succ]
                    refine wpAnyH_ready (rs := [13]) (by kernel_rfl) (by simp) ?_
                    refine AllReadyH.cons rfl (fun K hK => ?_) AllReadyH.nil
                    rw [if_pos (by kernel_rfl)]
                    go_simp
                    with_reducible refine (hz _).mono ?_
                    rintro e w4 ⟨rfl, hb4⟩
                    go_simp
                    refine hK.out _ _ (⟨blk_keep hHeld.1 hb4, below_base hHeld.2 hHeld.2.size hb4⟩) (fun hHeld2 => ?_)
                    clear hK K
                    try clear hHeld
                    have hHeld := hHeld2
                    try clear hHeld2
                    refine wpAnyH_take (i := 14) (v := ?_) rfl (by kernel_rfl) (by kernel_rfl) (by kernel_rfl) (fun _ _ _ h => h) (Or.inl ⟨by kernel_rfl, ?_⟩) hHeld ?_
                    rotate_left
                    · intro wq hSw
                      have hSc := blk_cell hSw.1; have hSl := lt_of_block hSw.1
                      go_simp
                      try rw [if_neg (by omega)]
                      try rw [if_pos (by omega)]
                      try with_reducible rfl
                    try simp only [Act.put, List.getElem_toArray, List.getElem_cons_succ, List.getElem_cons_zero, List.setIfInBounds_toArray, List.set_cons_zero, List.set_cons_succ]
                    refine wpAnyH_take (i := 15) (v := ?_) rfl (by kernel_rfl) (by kernel_rfl) (by kernel_rfl) (fun _ _ _ h => h) (Or.inl ⟨by kernel_rfl, ?_⟩) hHeld ?_
                    rotate_left
                    · intro wq hSw
                      have hSc := blk_cell hSw.1; have hSl := lt_of_block hSw.1
                      go_simp
                      try rw [if_neg (by omega)]
                      try rw [if_pos (by omega)]
                      try with_reducible rfl
                    try simp only [Act.put, List.getElem_toArray, List.getElem_cons_succ, List.getElem_cons_zero, List.setIfInBounds_toArray, List.set_cons_zero, List.set_cons_succ]
                    refine wpAnyH_take (i := 16) (v := ?_) rfl (by kernel_rfl) (by kernel_rfl) (by kernel_rfl) (fun _ _ _ h => h) (Or.inl ⟨by kernel_rfl, ?_⟩) hHeld ?_
                    rotate_left
                    · intro wq hSw
                      have hSc := blk_cell hSw.1; have hSl := lt_of_block hSw.1
                      go_simp
                      try rw [if_neg (by omega)]
                      try rw [if_pos (by omega)]
                      try with_reducible rfl
                    try simp only [Act.put, List.getElem_toArray, List.getElem_cons_succ, List.getElem_cons_zero, List.setIfInBounds_toArray, List.set_cons_zero, List.set_cons_succ]
                    refine wpAnyH_take (i := 17) (v := ?_) rfl (by kernel_rfl) (by kernel_rfl) (by kernel_rfl) (fun _ _ _ h => h) (Or.inl ⟨by kernel_rfl, ?_⟩) hHeld ?_
                    rotate_left
                    · intro wq hSw
                      have hSc := blk_cell hSw.1; have hSl := lt_of_block hSw.1
                      go_simp
                      try rw [if_neg (by omega)]
                      try rw [if_pos (by omega)]
                      try with_reducible rfl
                    try simp only [Act.put, List.getElem_toArray, List.getElem_cons_succ, List.getElem_cons_zero, List.setIfInBounds_toArray, List.set_cons_zero, List.set_cons_succ]
                    refine wpAnyH_take (i := 18) (v := ?_) rfl (by kernel_rfl) (by kernel_rfl) (by kernel_rfl) (fun _ _ _ h => h) (Or.inl ⟨by kernel_rfl, ?_⟩) hHeld ?_
                    rotate_left
                    · intro wq hSw
                      have hSc := blk_cell hSw.1; have hSl := lt_of_block hSw.1
                      go_simp
                      try rw [if_neg (by omega)]
                      try rw [if_pos (by omega)]
                      try with_reducible rfl
                    try simp only [Act.put, List.getElem_toArray, List.getElem_cons_succ, List.getElem_cons_zero, List.setIfInBounds_toArray, List.set_cons_zero, List.set_cons_succ]
                    refine wpAnyH_take (i := 19) (v := ?_) rfl (by kernel_rfl) (by kernel_rfl) (by kernel_rfl) (fun _ _ _ h => h) (Or.inl ⟨by kernel_rfl, ?_⟩) hHeld ?_
                    rotate_left
                    · intro wq hSw
                      have hSc := blk_cell hSw.1; have hSl := lt_of_block hSw.1
                      go_simp
                      try rw [if_neg (by omega)]
                      try rw [if_pos (by omega)]
                      try with_reducible rfl
                    try simp only [Act.put, List.getElem_toArray, List.getElem_cons_succ, List.getElem_cons_zero, List.setIfInBounds_toArray, List.set_cons_zero, List.set_cons_succ]
                    refine wpAnyH_take (i := 20) (v := ?_) rfl (by kernel_rfl) (by kernel_rfl) (by kernel_rfl) (fun _ _ _ h => h) (Or.inl ⟨by kernel_rfl, ?_⟩) hHeld ?_
                    rotate_left
                    · intro wq hSw
                      have hSc := blk_cell hSw.1; have hSl := lt_of_block hSw.1
                      go_simp
                      try rw [if_neg (by omega)]
                      try rw [if_pos (by omega)]
                      try with_reducible rfl
                    try simp only [Act.put, List.getElem_toArray, List.getElem_cons_succ, List.getElem_cons_zero, List.setIfInBounds_toArray, List.set_cons_zero, List.set_cons_succ]
                    refine wpAnyH_take (i := 21) (v := ?_) rfl (by kernel_rfl) (by kernel_rfl) (by kernel_rfl) (fun _ _ _ h => h) (Or.inl ⟨by kernel_rfl, ?_⟩) hHeld ?_
                    rotate_left
                    · intro wq hSw
                      have hSc := blk_cell hSw.1; have hSl := lt_of_block hSw.1
                      go_simp
                      try rw [if_neg (by omega)]
                      try rw [if_pos (by omega)]
                      try with_reducible rfl
                    try simp only [Act.put, List.getElem_toArray, List.getElem_cons_succ, List.getElem_cons_zero, List.setIfInBounds_toArray, List.set_cons_zero, List.set_cons_succ]
                    refine wpAnyH_take (i := 22) (v := ?_) rfl (by kernel_rfl) (by kernel_rfl) (by kernel_rfl) (fun _ _ _ h => h) (Or.inl ⟨by kernel_rfl, ?_⟩) hHeld ?_
                    rotate_left
                    · intro wq hSw
                      have hSc := blk_cell hSw.1; have hSl := lt_of_block hSw.1
                      go_simp
                      try rw [if_neg (by omega)]
                      try rw [if_pos (by omega)]
                      try with_reducible rfl
                    try simp only [Act.put, List.getElem_toArray, List.getElem_cons_succ, List.getElem_cons_zero, List.setIfInBounds_toArray, List.set_cons_zero, List.set_cons_succ]
                    refine wpAnyH_take (i := 23) (v := undef) rfl (by kernel_rfl) (by kernel_rfl) (by kernel_rfl) (fun _ _ _ h => h) (Or.inr ⟨by kernel_rfl, rfl⟩) hHeld ?_
                    try simp only [Act.put, List.getElem_toArray, List.getElem_cons_succ, List.getElem_cons_zero, List.setIfInBounds_toArray, List.set_cons_zero, List.set_cons_succ]
                    refine wpAnyH_take (i := 24) (v := undef) rfl (by kernel_rfl) (by kernel_rfl) (by kernel_rfl) (fun _ _ _ h => h) (Or.inr ⟨by kernel_rfl, rfl⟩) hHeld ?_
                    try simp only [Act.put, List.getElem_toArray, List.getElem_cons_succ, List.getElem_cons_zero, List.setIfInBounds_toArray, List.set_cons_zero, List.set_cons_succ]
                    refine wpAnyH_take (i := 25) (v := undef) rfl (by kernel_rfl) (by kernel_rfl) (by kernel_rfl) (fun _ _ _ h => h) (Or.inr ⟨by kernel_rfl, rfl⟩) hHeld ?_
                    try simp only [Act.put, List.getElem_toArray, List.getElem_cons_succ, List.getElem_cons_zero, List.setIfInBounds_toArray, List.set_cons_zero, List.set_cons_succ]
                    refine wpAnyH_take (i := 26) (v := undef) rfl (by kernel_rfl) (by kernel_rfl) (by kernel_rfl) (fun _ _ _ h => h) (Or.inr ⟨by kernel_rfl, rfl⟩) hHeld ?_
                    try simp only [Act.put, List.getElem_toArray, List.getElem_cons_succ, List.getElem_cons_zero, List.setIfInBounds_toArray, List.set_cons_zero, List.set_cons_succ]
                    refine wpAnyH_take (i := 27) (v := ?_) rfl (by kernel_rfl) (by kernel_rfl) (by kernel_rfl) (fun _ _ _ h => h) (Or.inl ⟨by kernel_rfl, ?_⟩) hHeld ?_
                    rotate_left
                    · intro wq hSw
                      have hSc := blk_cell hSw.1; have hSl := lt_of_block hSw.1
                      go_simp
                      try rw [if_neg (by omega)]
                      try rw [if_pos (by omega)]
                      try with_reducible rfl
                    try simp only [Act.put, List.getElem_toArray, List.getElem_cons_succ, List.getElem_cons_zero, List.setIfInBounds_toArray, List.set_cons_zero, List.set_cons_succ]
                    refine wpAnyH_done (by kernel_rfl) ?_ _
                    go_wp2_with fail
                    go_ret
                    exact ⟨by first | (rw [hpf.out]; rfl) | rw [hpf.out], hHeld.2⟩
                · have hne : ((s.extract j 240).toList == z.toList) = false := (Lib.bytes_beq_false_iff _ _).2 hE
                  have hpf := Lib.hid (Hno.out (s.extract j 240 = z) (fun n hm he => Hcz2.out.2 (by rw [he]; exact hm.past)) hE)
                  clear hE
                  go_wp2_with fail
                  refine wp_region_held_drew (S := (fun W' => W'.heap[w.heap.size]? = some (.cells #[.int .i64 2, .int .i64 d, .int .i64 x, .string s] 23 (0, 0)) ∧ Below w.heap.size w W')) (by kernel_rfl) (⟨blp, below_dr hbel⟩) (fun hHeld => ?_)
                  refine wpAnyH_take (i := 0) (v := ?_) rfl (by kernel_rfl) (by kernel_rfl) (by kernel_rfl) (fun _ _ _ h => h) (Or.inl ⟨by kernel_rfl, ?_⟩) hHeld ?_
                  rotate_left
                  · intro wq hSw
                    have hSc := blk_cell hSw.1; have hSl := lt_of_block hSw.1
                    go_simp
                    try rw [if_neg (by omega)]
                    try rw [if_pos (by omega)]
                    try with_reducible rfl
                  try simp only [Act.put, List.getElem_toArray, List.getElem_cons_succ, List.getElem_cons_zero, List.setIfInBounds_toArray, List.set_cons_zero, List.set_cons_succ]
                  refine wpAnyH_take (i := 1) (v := ?_) rfl (by kernel_rfl) (by kernel_rfl) (by kernel_rfl) (fun _ _ _ h => h) (Or.inl ⟨by kernel_rfl, ?_⟩) hHeld ?_
                  rotate_left
                  · intro wq hSw
                    have hSc := blk_cell hSw.1; have hSl := lt_of_block hSw.1
                    go_simp
                    try rw [if_neg (by omega)]
                    try rw [if_pos (by omega)]
                    try with_reducible rfl
                  try simp only [Act.put, List.getElem_toArray, List.getElem_cons_succ, List.getElem_cons_zero, List.setIfInBounds_toArray, List.set_cons_zero, List.set_cons_succ]
                  refine wpAnyH_take (i := 2) (v := ?_) rfl (by kernel_rfl) (by kernel_rfl) (by kernel_rfl) (fun _ _ _ h => h) (Or.inl ⟨by kernel_rfl, ?_⟩) hHeld ?_
                  rotate_left
                  · intro wq hSw
                    have hSc := blk_cell hSw.1; have hSl := lt_of_block hSw.1
                    go_simp
                    try rw [if_neg (by omega)]
                    try rw [if_pos (by omega)]
                    try with_reducible rfl
                  try simp only [Act.put, List.getElem_toArray, List.getElem_cons_succ, List.getElem_cons_zero, List.setIfInBounds_toArray, List.set_cons_zero, List.set_cons_succ]
                  refine wpAnyH_take (i := 3) (v := ?_) rfl (by kernel_rfl) (by kernel_rfl) (by kernel_rfl) (fun _ _ _ h => h) (Or.inl ⟨by kernel_rfl, ?_⟩) hHeld ?_
                  rotate_left
                  · intro wq hSw
                    have hSc := blk_cell hSw.1; have hSl := lt_of_block hSw.1
                    go_simp
                    try rw [if_neg (by omega)]
                    try rw [if_pos (by omega)]
                    try with_reducible rfl
                  try simp only [Act.put, List.getElem_toArray, List.getElem_cons_succ, List.getElem_cons_zero, List.setIfInBounds_toArray, List.set_cons_zero, List.set_cons_succ]
                  refine wpAnyH_take (i := 4) (v := ?_) rfl (by kernel_rfl) (by kernel_rfl) (by kernel_rfl) (fun _ _ _ h => h) (Or.inl ⟨by kernel_rfl, ?_⟩) hHeld ?_
                  rotate_left
                  · intro wq hSw
                    have hSc := blk_cell hSw.1; have hSl := lt_of_block hSw.1
                    go_simp
                    try rw [if_neg (by omega)]
                    try rw [if_pos (by omega)]
                    try with_reducible rfl
                  try simp only [Act.put, List.getElem_toArray, List.getElem_cons_succ, List.getElem_cons_zero, List.setIfInBounds_toArray, List.set_cons_zero, List.set_cons_succ]
                  refine wpAnyH_take (i := 5) (v := ?_) rfl (by kernel_rfl) (by kernel_rfl) (by kernel_rfl) (fun _ _ _ h => h) (Or.inl ⟨by kernel_rfl, ?_⟩) hHeld ?_
                  rotate_left
                  · intro wq hSw
                    have hSc := blk_cell hSw.1; have hSl := lt_of_block hSw.1
                    go_simp
                    try rw [if_neg (by omega)]
                    try rw [if_pos (by omega)]
                    try with_reducible rfl
                  try simp only [Act.put, List.getElem_toArray, List.getElem_cons_succ, List.getElem_cons_zero, List.setIfInBounds_toArray, List.set_cons_zero, List.set_cons_succ]
                  refine wpAnyH_take (i := 6) (v := ?_) rfl (by kernel_rfl) (by kernel_rfl) (by kernel_rfl) (fun _ _ _ h => h) (Or.inl ⟨by kernel_rfl, ?_⟩) hHeld ?_
                  rotate_left
                  · intro wq hSw
                    have hSc := blk_cell hSw.1; have hSl := lt_of_block hSw.1
                    go_simp
                    try rw [if_neg (by omega)]
                    try rw [if_pos (by omega)]
                    try with_reducible rfl
                  try simp only [Act.put, List.getElem_toArray, List.getElem_cons_succ, List.getElem_cons_zero, List.setIfInBounds_toArray, List.set_cons_zero, List.set_cons_succ]
                  refine wpAnyH_take (i := 7) (v := ?_) rfl (by kernel_rfl) (by kernel_rfl) (by kernel_rfl) (fun _ _ _ h => h) (Or.inl ⟨by kernel_rfl, ?_⟩) hHeld ?_
                  rotate_left
                  · intro wq hSw
                    have hSc := blk_cell hSw.1; have hSl := lt_of_block hSw.1
                    go_simp
                    try rw [if_neg (by omega)]
                    try rw [if_pos (by omega)]
                    try with_reducible rfl
                  try simp only [Act.put, List.getElem_toArray, List.getElem_cons_succ, List.getElem_cons_zero, List.setIfInBounds_toArray, List.set_cons_zero, List.set_cons_succ]
                  refine wpAnyH_take (i := 8) (v := ?_) rfl (by kernel_rfl) (by kernel_rfl) (by kernel_rfl) (fun _ _ _ h => h) (Or.inl ⟨by kernel_rfl, ?_⟩) hHeld ?_
                  rotate_left
                  · intro wq hSw
                    have hSc := blk_cell hSw.1; have hSl := lt_of_block hSw.1
                    go_simp
                    try rw [if_neg (by omega)]
                    try rw [if_pos (by omega)]
                    try with_reducible rfl
                  try simp only [Act.put, List.getElem_toArray, List.getElem_cons_succ, List.getElem_cons_zero, List.setIfInBounds_toArray, List.set_cons_zero, List.set_cons_succ]
                  refine wpAnyH_take (i := 9) (v := ?_) rfl (by kernel_rfl) (by kernel_rfl) (by kernel_rfl) (fun _ _ _ h => h) (Or.inl ⟨by kernel_rfl, ?_⟩) hHeld ?_
                  rotate_left
                  · intro wq hSw
                    have hSc := blk_cell hSw.1; have hSl := lt_of_block hSw.1
                    go_simp
                    try rw [if_neg (by omega)]
                    try rw [if_pos (by omega)]
                    try with_reducible rfl
                  try simp only [Act.put, List.getElem_toArray, List.getElem_cons_succ, List.getElem_cons_zero, List.setIfInBounds_toArray, List.set_cons_zero, List.set_cons_succ]
                  refine wpAnyH_take (i := 10) (v := ?_) rfl (by kernel_rfl) (by kernel_rfl) (by kernel_rfl) (fun _ _ _ h => h) (Or.inl ⟨by kernel_rfl, ?_⟩) hHeld ?_
                  rotate_left
                  · intro wq hSw
                    have hSc := blk_cell hSw.1; have hSl := lt_of_block hSw.1
                    go_simp
                    try rw [if_neg (by omega)]
                    try rw [if_pos (by omega)]
                    try with_reducible rfl
                  try simp only [Act.put, List.getElem_toArray, List.getElem_cons_succ, List.getElem_cons_zero, List.setIfInBounds_toArray, List.set_cons_zero, List.set_cons_succ]
                  refine wpAnyH_take (i := 11) (v := ?_) rfl (by kernel_rfl) (by kernel_rfl) (by kernel_rfl) (fun _ _ _ h => h) (Or.inl ⟨by kernel_rfl, ?_⟩) hHeld ?_
                  rotate_left
                  · intro wq hSw
                    have hSc := blk_cell hSw.1; have hSl := lt_of_block hSw.1
                    go_simp
                    try rw [if_neg (by omega)]
                    try rw [if_pos (by omega)]
                    try with_reducible rfl
                  try simp only [Act.put, List.getElem_toArray, List.getElem_cons_succ, List.getElem_cons_zero, List.setIfInBounds_toArray, List.set_cons_zero, List.set_cons_succ]
                  refine wpAnyH_take (i := 12) (v := ?_) rfl (by kernel_rfl) (by kernel_rfl) (by kernel_rfl) (fun _ _ _ h => h) (Or.inl ⟨by kernel_rfl, ?_⟩) hHeld ?_
                  rotate_left
                  · intro wq hSw
                    have hSc := blk_cell hSw.1; have hSl := lt_of_block hSw.1
                    go_simp
                    try rw [if_neg (by omega)]
                    try rw [if_pos (by omega)]
                    try with_reducible rfl
                  try simp only [Act.put, List.getElem_toArray, List.getElem_cons_succ, List.getElem_cons_zero, List.setIfInBounds_toArray, List.set_cons_zero, List.set_cons_succ]
                  refine wpAnyH_ready (rs := [13]) (by kernel_rfl) (by simp) ?_
                  refine AllReadyH.cons rfl (fun K hK => ?_) AllReadyH.nil
                  rw [if_pos (by kernel_rfl)]
                  go_simp
                  with_reducible refine (hz _).mono ?_
                  rintro e w4 ⟨rfl, hb4⟩
                  go_simp
                  refine hK.out _ _ (⟨blk_keep hHeld.1 hb4, below_base hHeld.2 hHeld.2.size hb4⟩) (fun hHeld2 => ?_)
                  clear hK K
                  try clear hHeld
                  have hHeld := hHeld2
                  try clear hHeld2
                  refine wpAnyH_take (i := 14) (v := ?_) rfl (by kernel_rfl) (by kernel_rfl) (by kernel_rfl) (fun _ _ _ h => h) (Or.inl ⟨by kernel_rfl, ?_⟩) hHeld ?_
                  rotate_left
                  · intro wq hSw
                    have hSc := blk_cell hSw.1; have hSl := lt_of_block hSw.1
                    go_simp
                    try rw [if_neg (by omega)]
                    try rw [if_pos (by omega)]
                    try with_reducible rfl
                  try simp only [Act.put, List.getElem_toArray, List.getElem_cons_succ, List.getElem_cons_zero, List.setIfInBounds_toArray, List.set_cons_zero, List.set_cons_succ]
                  refine wpAnyH_take (i := 15) (v := ?_) rfl (by kernel_rfl) (by kernel_rfl) (by kernel_rfl) (fun _ _ _ h => h) (Or.inl ⟨by kernel_rfl, ?_⟩) hHeld ?_
                  rotate_left
                  · intro wq hSw
                    have hSc := blk_cell hSw.1; have hSl := lt_of_block hSw.1
                    go_simp
                    try rw [if_neg (by omega)]
                    try rw [if_pos (by omega)]
                    try with_reducible rfl
                  try simp only [Act.put, List.getElem_toArray, List.getElem_cons_succ, List.getElem_cons_zero, List.setIfInBounds_toArray, List.set_cons_zero, List.set_cons_succ]
                  refine wpAnyH_take (i := 16) (v := ?_) rfl (by kernel_rfl) (by kernel_rfl) (by kernel_rfl) (fun _ _ _ h => h) (Or.inl ⟨by kernel_rfl, ?_⟩) hHeld ?_
                  rotate_left
                  · intro wq hSw
                    have hSc := blk_cell hSw.1; have hSl := lt_of_block hSw.1
                    go_simp
                    try rw [if_neg (by omega)]
                    try rw [if_pos (by omega)]
                    try with_reducible rfl
                  try simp only [Act.put, List.getElem_toArray, List.getElem_cons_succ, List.getElem_cons_zero, List.setIfInBounds_toArray, List.set_cons_zero, List.set_cons_succ]
                  refine wpAnyH_take (i := 17) (v := undef) rfl (by kernel_rfl) (by kernel_rfl) (by kernel_rfl) (fun _ _ _ h => h) (Or.inr ⟨by kernel_rfl, rfl⟩) hHeld ?_
                  try simp only [Act.put, List.getElem_toArray, List.getElem_cons_succ, List.getElem_cons_zero, List.setIfInBounds_toArray, List.set_cons_zero, List.set_cons_succ]
                  refine wpAnyH_take (i := 18) (v := undef) rfl (by kernel_rfl) (by kernel_rfl) (by kernel_rfl) (fun _ _ _ h => h) (Or.inr ⟨by kernel_rfl, rfl⟩) hHeld ?_
                  try simp only [Act.put, List.getElem_toArray, List.getElem_cons_succ, List.getElem_cons_zero, List.setIfInBounds_toArray, List.set_cons_zero, List.set_cons_succ]
                  refine wpAnyH_take (i := 19) (v := undef) rfl (by kernel_rfl) (by kernel_rfl) (by kernel_rfl) (fun _ _ _ h => h) (Or.inr ⟨by kernel_rfl, rfl⟩) hHeld ?_
                  try simp only [Act.put, List.getElem_toArray, List.getElem_cons_succ, List.getElem_cons_zero, List.setIfInBounds_toArray, List.set_cons_zero, List.set_cons_succ]
                  refine wpAnyH_take (i := 20) (v := undef) rfl (by kernel_rfl) (by kernel_rfl) (by kernel_rfl) (fun _ _ _ h => h) (Or.inr ⟨by kernel_rfl, rfl⟩) hHeld ?_
                  try simp only [Act.put, List.getElem_toArray, List.getElem_cons_succ, List.getElem_cons_zero, List.setIfInBounds_toArray, List.set_cons_zero, List.set_cons_succ]
                  refine wpAnyH_take (i := 21) (v := ?_) rfl (by kernel_rfl) (by kernel_rfl) (by kernel_rfl) (fun _ _ _ h => h) (Or.inl ⟨by kernel_rfl, ?_⟩) hHeld ?_
                  rotate_left
                  · intro wq hSw
                    have hSc := blk_cell hSw.1; have hSl := lt_of_block hSw.1
                    go_simp
                    try rw [if_neg (by omega)]
                    try rw [if_pos (by omega)]
                    try with_reducible rfl
                  try simp only [Act.put, List.getElem_toArray, List.getElem_cons_succ, List.getElem_cons_zero, List.setIfInBounds_toArray, List.set_cons_zero, List.set_cons_succ]
                  refine wpAnyH_take (i := 22) (v := ?_) rfl (by kernel_rfl) (by kernel_rfl) (by kernel_rfl) (fun _ _ _ h => h) (Or.inl ⟨by kernel_rfl, ?_⟩) hHeld ?_
                  rotate_left
                  · intro wq hSw
                    have hSc := blk_cell hSw.1; have hSl := lt_of_block hSw.1
                    go_simp
                    try rw [if_neg (by omega)]
                    try rw [if_pos (by omega)]
                    try with_reducible rfl
                  try simp only [Act.put, List.getElem_toArray, List.getElem_cons_succ, List.getElem_cons_zero, List.setIfInBounds_toArray, List.set_cons_zero, List.set_cons_succ]
                  refine wpAnyH_take (i := 23) (v := undef) rfl (by kernel_rfl) (by kernel_rfl) (by kernel_rfl) (fun _ _ _ h => h) (Or.inr ⟨by kernel_rfl, rfl⟩) hHeld ?_
                  try simp only [Act.put, List.getElem_toArray, List.getElem_cons_succ, List.getElem_cons_zero, List.setIfInBounds_toArray, List.set_cons_zero, List.set_cons_succ]
                  refine wpAnyH_take (i := 24) (v := undef) rfl (by kernel_rfl) (by kernel_rfl) (by kernel_rfl) (fun _ _ _ h => h) (Or.inr ⟨by kernel_rfl, rfl⟩) hHeld ?_
                  try simp only [Act.put, List.getElem_toArray, List.getElem_cons_succ, List.getElem_cons_zero, List.setIfInBounds_toArray, List.set_cons_zero, List.set_cons_succ]
                  refine wpAnyH_take (i := 25) (v := undef) rfl (by kernel_rfl) (by kernel_rfl) (by kernel_rfl) (fun _ _ _ h => h) (Or.inr ⟨by kernel_rfl, rfl⟩) hHeld ?_
                  try simp only [Act.put, List.getElem_toArray, List.getElem_cons_succ, List.getElem_cons_zero, List.setIfInBounds_toArray, List.set_cons_zero, List.set_cons_succ]
                  refine wpAnyH_take (i := 26) (v := undef) rfl (by kernel_rfl) (by kernel_rfl) (by kernel_rfl) (fun _ _ _ h => h) (Or.inr ⟨by kernel_rfl, rfl⟩) hHeld ?_
                  try simp only [Act.put, List.getElem_toArray, List.getElem_cons_succ, List.getElem_cons_zero, List.setIfInBounds_toArray, List.set_cons_zero, List.set_cons_succ]
                  refine wpAnyH_take (i := 27) (v := ?_) rfl (by kernel_rfl) (by kernel_rfl) (by kernel_rfl) (fun _ _ _ h => h) (Or.inl ⟨by kernel_rfl, ?_⟩) hHeld ?_
                  rotate_left
                  · intro wq hSw
                    have hSc := blk_cell hSw.1; have hSl := lt_of_block hSw.1
                    go_simp
                    try rw [if_neg (by omega)]
                    try rw [if_pos (by omega)]
                    try with_reducible rfl
                  try simp only [Act.put, List.getElem_toArray, List.getElem_cons_succ, List.getElem_cons_zero, List.setIfInBounds_toArray, List.set_cons_zero, List.set_cons_succ]
                  refine wpAnyH_done (by kernel_rfl) ?_ _
                  go_wp2_with fail
                  go_ret
                  exact ⟨by first | (rw [hpf.out]; rfl) | rw [hpf.out], hHeld.2⟩
              · have d64 : decide ((64 : Int) < (j : Int)) = true := by simp; omega
                have d64' : decide (64 < j) = true := by simp; omega
                have hpf := Lib.hid (Hno.out (j ≤ 64) (fun n hm he => by rw [he]; exact hm.le) h64)
                clear h64
                go_wp2_with fail
                refine wp_region_held_drew (S := (fun W' => W'.heap[w.heap.size]? = some (.cells #[.int .i64 2, .int .i64 d, .int .i64 x, .string s] 23 (0, 0)) ∧ Below w.heap.size w W')) (by kernel_rfl) (⟨blp, below_dr hbel⟩) (fun hHeld => ?_)
                refine wpAnyH_take (i := 0) (v := ?_) rfl (by kernel_rfl) (by kernel_rfl) (by kernel_rfl) (fun _ _ _ h => h) (Or.inl ⟨by kernel_rfl, ?_⟩) hHeld ?_
                rotate_left
                · intro wq hSw
                  have hSc := blk_cell hSw.1; have hSl := lt_of_block hSw.1
                  go_simp
                  try rw [if_neg (by omega)]
                  try rw [if_pos (by omega)]
                  try with_reducible rfl
                try simp only [Act.put, List.getElem_toArray, List.getElem_cons_succ, List.getElem_cons_zero, List.setIfInBounds_toArray, List.set_cons_zero, List.set_cons_succ]
                refine wpAnyH_take (i := 1) (v := ?_) rfl (by kernel_rfl) (by kernel_rfl) (by kernel_rfl) (fun _ _ _ h => h) (Or.inl ⟨by kernel_rfl, ?_⟩) hHeld ?_
                rotate_left
                · intro wq hSw
                  have hSc := blk_cell hSw.1; have hSl := lt_of_block hSw.1
                  go_simp
                  try rw [if_neg (by omega)]
                  try rw [if_pos (by omega)]
                  try with_reducible rfl
                try simp only [Act.put, List.getElem_toArray, List.getElem_cons_succ, List.getElem_cons_zero, List.setIfInBounds_toArray, List.set_cons_zero, List.set_cons_succ]
                refine wpAnyH_take (i := 2) (v := ?_) rfl (by kernel_rfl) (by kernel_rfl) (by kernel_rfl) (fun _ _ _ h => h) (Or.inl ⟨by kernel_rfl, ?_⟩) hHeld ?_
                rotate_left
                · intro wq hSw
                  have hSc := blk_cell hSw.1; have hSl := lt_of_block hSw.1
                  go_simp
                  try rw [if_neg (by omega)]
                  try rw [if_pos (by omega)]
                  try with_reducible rfl
                try simp only [Act.put, List.getElem_toArray, List.getElem_cons_succ, List.getElem_cons_zero, List.setIfInBounds_toArray, List.set_cons_zero, List.set_cons_succ]
                refine wpAnyH_take (i := 3) (v := ?_) rfl (by kernel_rfl) (by kernel_rfl) (by kernel_rfl) (fun _ _ _ h => h) (Or.inl ⟨by kernel_rfl, ?_⟩) hHeld ?_
                rotate_left
                · intro wq hSw
                  have hSc := blk_cell hSw.1; have hSl := lt_of_block hSw.1
                  go_simp
                  try rw [if_neg (by omega)]
                  try rw [if_pos (by omega)]
                  try with_reducible rfl
                try simp only [Act.put, List.getElem_toArray, List.getElem_cons_succ, List.getElem_cons_zero, List.setIfInBounds_toArray, List.set_cons_zero, List.set_cons_succ]
                refine wpAnyH_take (i := 4) (v := ?_) rfl (by kernel_rfl) (by kernel_rfl) (by kernel_rfl) (fun _ _ _ h => h) (Or.inl ⟨by kernel_rfl, ?_⟩) hHeld ?_
                rotate_left
                · intro wq hSw
                  have hSc := blk_cell hSw.1; have hSl := lt_of_block hSw.1
                  go_simp
                  try rw [if_neg (by omega)]
                  try rw [if_pos (by omega)]
                  try with_reducible rfl
                try simp only [Act.put, List.getElem_toArray, List.getElem_cons_succ, List.getElem_cons_zero, List.setIfInBounds_toArray, List.set_cons_zero, List.set_cons_succ]
                refine wpAnyH_take (i := 5) (v := ?_) rfl (by kernel_rfl) (by kernel_rfl) (by kernel_rfl) (fun _ _ _ h => h) (Or.inl ⟨by kernel_rfl, ?_⟩) hHeld ?_
                rotate_left
                · intro wq hSw
                  have hSc := blk_cell hSw.1; have hSl := lt_of_block hSw.1
                  go_simp
                  try rw [if_neg (by omega)]
                  try rw [if_pos (by omega)]
                  try with_reducible rfl
                try simp only [Act.put, List.getElem_toArray, List.getElem_cons_succ, List.getElem_cons_zero, List.setIfInBounds_toArray, List.set_cons_zero, List.set_cons_succ]
                refine wpAnyH_take (i := 6) (v := ?_) rfl (by kernel_rfl) (by kernel_rfl) (by kernel_rfl) (fun _ _ _ h => h) (Or.inl ⟨by kernel_rfl, ?_⟩) hHeld ?_
                rotate_left
                · intro wq hSw
                  have hSc := blk_cell hSw.1; have hSl := lt_of_block hSw.1
                  go_simp
                  try rw [if_neg (by omega)]
                  try rw [if_pos (by omega)]
                  try with_reducible rfl
                try simp only [Act.put, List.getElem_toArray, List.getElem_cons_succ, List.getElem_cons_zero, List.setIfInBounds_toArray, List.set_cons_zero, List.set_cons_succ]
                refine wpAnyH_take (i := 7) (v := undef) rfl (by kernel_rfl) (by kernel_rfl) (by kernel_rfl) (fun _ _ _ h => h) (Or.inr ⟨by kernel_rfl, rfl⟩) hHeld ?_
                try simp only [Act.put, List.getElem_toArray, List.getElem_cons_succ, List.getElem_cons_zero, List.setIfInBounds_toArray, List.set_cons_zero, List.set_cons_succ]
                refine wpAnyH_take (i := 8) (v := undef) rfl (by kernel_rfl) (by kernel_rfl) (by kernel_rfl) (fun _ _ _ h => h) (Or.inr ⟨by kernel_rfl, rfl⟩) hHeld ?_
                try simp only [Act.put, List.getElem_toArray, List.getElem_cons_succ, List.getElem_cons_zero, List.setIfInBounds_toArray, List.set_cons_zero, List.set_cons_succ]
                refine wpAnyH_take (i := 9) (v := undef) rfl (by kernel_rfl) (by kernel_rfl) (by kernel_rfl) (fun _ _ _ h => h) (Or.inr ⟨by kernel_rfl, rfl⟩) hHeld ?_
                try simp only [Act.put, List.getElem_toArray, List.getElem_cons_succ, List.getElem_cons_zero, List.setIfInBounds_toArray, List.set_cons_zero, List.set_cons_succ]
                refine wpAnyH_take (i := 10) (v := undef) rfl (by kernel_rfl) (by kernel_rfl) (by kernel_rfl) (fun _ _ _ h => h) (Or.inr ⟨by kernel_rfl, rfl⟩) hHeld ?_
                try simp only [Act.put, List.getElem_toArray, List.getElem_cons_succ, List.getElem_cons_zero, List.setIfInBounds_toArray, List.set_cons_zero, List.set_cons_succ]
                refine wpAnyH_take (i := 11) (v := undef) rfl (by kernel_rfl) (by kernel_rfl) (by kernel_rfl) (fun _ _ _ h => h) (Or.inr ⟨by kernel_rfl, rfl⟩) hHeld ?_
                try simp only [Act.put, List.getElem_toArray, List.getElem_cons_succ, List.getElem_cons_zero, List.setIfInBounds_toArray, List.set_cons_zero, List.set_cons_succ]
                refine wpAnyH_take (i := 12) (v := undef) rfl (by kernel_rfl) (by kernel_rfl) (by kernel_rfl) (fun _ _ _ h => h) (Or.inr ⟨by kernel_rfl, rfl⟩) hHeld ?_
                try simp only [Act.put, List.getElem_toArray, List.getElem_cons_succ, List.getElem_cons_zero, List.setIfInBounds_toArray, List.set_cons_zero, List.set_cons_succ]
                refine wpAnyH_take (i := 13) (v := undef) rfl (by kernel_rfl) (by kernel_rfl) (by kernel_rfl) (fun _ _ _ h => h) (Or.inr ⟨by kernel_rfl, rfl⟩) hHeld ?_
                try simp only [Act.put, List.getElem_toArray, List.getElem_cons_succ, List.getElem_cons_zero, List.setIfInBounds_toArray, List.set_cons_zero, List.set_cons_succ]
                refine wpAnyH_take (i := 14) (v := undef) rfl (by kernel_rfl) (by kernel_rfl) (by kernel_rfl) (fun _ _ _ h => h) (Or.inr ⟨by kernel_rfl, rfl⟩) hHeld ?_
                try simp only [Act.put, List.getElem_toArray, List.getElem_cons_succ, List.getElem_cons_zero, List.setIfInBounds_toArray, List.set_cons_zero, List.set_cons_succ]
                refine wpAnyH_take (i := 15) (v := ?_) rfl (by kernel_rfl) (by kernel_rfl) (by kernel_rfl) (fun _ _ _ h => h) (Or.inl ⟨by kernel_rfl, ?_⟩) hHeld ?_
                rotate_left
                · intro wq hSw
                  have hSc := blk_cell hSw.1; have hSl := lt_of_block hSw.1
                  go_simp
                  try rw [if_neg (by omega)]
                  try rw [if_pos (by omega)]
                  try with_reducible rfl
                try simp only [Act.put, List.getElem_toArray, List.getElem_cons_succ, List.getElem_cons_zero, List.setIfInBounds_toArray, List.set_cons_zero, List.set_cons_succ]
                refine wpAnyH_take (i := 16) (v := ?_) rfl (by kernel_rfl) (by kernel_rfl) (by kernel_rfl) (fun _ _ _ h => h) (Or.inl ⟨by kernel_rfl, ?_⟩) hHeld ?_
                rotate_left
                · intro wq hSw
                  have hSc := blk_cell hSw.1; have hSl := lt_of_block hSw.1
                  go_simp
                  try rw [if_neg (by omega)]
                  try rw [if_pos (by omega)]
                  try with_reducible rfl
                try simp only [Act.put, List.getElem_toArray, List.getElem_cons_succ, List.getElem_cons_zero, List.setIfInBounds_toArray, List.set_cons_zero, List.set_cons_succ]
                refine wpAnyH_take (i := 17) (v := undef) rfl (by kernel_rfl) (by kernel_rfl) (by kernel_rfl) (fun _ _ _ h => h) (Or.inr ⟨by kernel_rfl, rfl⟩) hHeld ?_
                try simp only [Act.put, List.getElem_toArray, List.getElem_cons_succ, List.getElem_cons_zero, List.setIfInBounds_toArray, List.set_cons_zero, List.set_cons_succ]
                refine wpAnyH_take (i := 18) (v := undef) rfl (by kernel_rfl) (by kernel_rfl) (by kernel_rfl) (fun _ _ _ h => h) (Or.inr ⟨by kernel_rfl, rfl⟩) hHeld ?_
                try simp only [Act.put, List.getElem_toArray, List.getElem_cons_succ, List.getElem_cons_zero, List.setIfInBounds_toArray, List.set_cons_zero, List.set_cons_succ]
                refine wpAnyH_take (i := 19) (v := undef) rfl (by kernel_rfl) (by kernel_rfl) (by kernel_rfl) (fun _ _ _ h => h) (Or.inr ⟨by kernel_rfl, rfl⟩) hHeld ?_
                try simp only [Act.put, List.getElem_toArray, List.getElem_cons_succ, List.getElem_cons_zero, List.setIfInBounds_toArray, List.set_cons_zero, List.set_cons_succ]
                refine wpAnyH_take (i := 20) (v := undef) rfl (by kernel_rfl) (by kernel_rfl) (by kernel_rfl) (fun _ _ _ h => h) (Or.inr ⟨by kernel_rfl, rfl⟩) hHeld ?_
                try simp only [Act.put, List.getElem_toArray, List.getElem_cons_succ, List.getElem_cons_zero, List.setIfInBounds_toArray, List.set_cons_zero, List.set_cons_succ]
                refine wpAnyH_take (i := 21) (v := ?_) rfl (by kernel_rfl) (by kernel_rfl) (by kernel_rfl) (fun _ _ _ h => h) (Or.inl ⟨by kernel_rfl, ?_⟩) hHeld ?_
                rotate_left
                · intro wq hSw
                  have hSc := blk_cell hSw.1; have hSl := lt_of_block hSw.1
                  go_simp
                  try rw [if_neg (by omega)]
                  try rw [if_pos (by omega)]
                  try with_reducible rfl
                try simp only [Act.put, List.getElem_toArray, List.getElem_cons_succ, List.getElem_cons_zero, List.setIfInBounds_toArray, List.set_cons_zero, List.set_cons_succ]
                refine wpAnyH_take (i := 22) (v := ?_) rfl (by kernel_rfl) (by kernel_rfl) (by kernel_rfl) (fun _ _ _ h => h) (Or.inl ⟨by kernel_rfl, ?_⟩) hHeld ?_
                rotate_left
                · intro wq hSw
                  have hSc := blk_cell hSw.1; have hSl := lt_of_block hSw.1
                  go_simp
                  try rw [if_neg (by omega)]
                  try rw [if_pos (by omega)]
                  try with_reducible rfl
                try simp only [Act.put, List.getElem_toArray, List.getElem_cons_succ, List.getElem_cons_zero, List.setIfInBounds_toArray, List.set_cons_zero, List.set_cons_succ]
                refine wpAnyH_take (i := 23) (v := undef) rfl (by kernel_rfl) (by kernel_rfl) (by kernel_rfl) (fun _ _ _ h => h) (Or.inr ⟨by kernel_rfl, rfl⟩) hHeld ?_
                try simp only [Act.put, List.getElem_toArray, List.getElem_cons_succ, List.getElem_cons_zero, List.setIfInBounds_toArray, List.set_cons_zero, List.set_cons_succ]
                refine wpAnyH_take (i := 24) (v := undef) rfl (by kernel_rfl) (by kernel_rfl) (by kernel_rfl) (fun _ _ _ h => h) (Or.inr ⟨by kernel_rfl, rfl⟩) hHeld ?_
                try simp only [Act.put, List.getElem_toArray, List.getElem_cons_succ, List.getElem_cons_zero, List.setIfInBounds_toArray, List.set_cons_zero, List.set_cons_succ]
                refine wpAnyH_take (i := 25) (v := undef) rfl (by kernel_rfl) (by kernel_rfl) (by kernel_rfl) (fun _ _ _ h => h) (Or.inr ⟨by kernel_rfl, rfl⟩) hHeld ?_
                try simp only [Act.put, List.getElem_toArray, List.getElem_cons_succ, List.getElem_cons_zero, List.setIfInBounds_toArray, List.set_cons_zero, List.set_cons_succ]
                refine wpAnyH_take (i := 26) (v := undef) rfl (by kernel_rfl) (by kernel_rfl) (by kernel_rfl) (fun _ _ _ h => h) (Or.inr ⟨by kernel_rfl, rfl⟩) hHeld ?_
                try simp only [Act.put, List.getElem_toArray, List.getElem_cons_succ, List.getElem_cons_zero, List.setIfInBounds_toArray, List.set_cons_zero, List.set_cons_succ]
                refine wpAnyH_take (i := 27) (v := ?_) rfl (by kernel_rfl) (by kernel_rfl) (by kernel_rfl) (fun _ _ _ h => h) (Or.inl ⟨by kernel_rfl, ?_⟩) hHeld ?_
                rotate_left
                · intro wq hSw
                  have hSc := blk_cell hSw.1; have hSl := lt_of_block hSw.1
                  go_simp
                  try rw [if_neg (by omega)]
                  try rw [if_pos (by omega)]
                  try with_reducible rfl
                try simp only [Act.put, List.getElem_toArray, List.getElem_cons_succ, List.getElem_cons_zero, List.setIfInBounds_toArray, List.set_cons_zero, List.set_cons_succ]
                refine wpAnyH_done (by kernel_rfl) ?_ _
                go_wp2_with fail
                go_ret
                exact ⟨by first | (rw [hpf.out]; rfl) | rw [hpf.out], hHeld.2⟩
            · have d8 : decide ((j : Int) < 8) = true := by simp; omega
              have d8' : decide (j < 8) = true := by simp; omega
              have hpf := Lib.hid (Hno.out (8 ≤ j) (fun n hm he => by rw [he]; exact hm.ge) h8)
              clear h8
              go_wp2_with fail
              refine wp_region_held_drew (S := (fun W' => W'.heap[w.heap.size]? = some (.cells #[.int .i64 2, .int .i64 d, .int .i64 x, .string s] 23 (0, 0)) ∧ Below w.heap.size w W')) (by kernel_rfl) (⟨blp, below_dr hbel⟩) (fun hHeld => ?_)
              refine wpAnyH_take (i := 0) (v := ?_) rfl (by kernel_rfl) (by kernel_rfl) (by kernel_rfl) (fun _ _ _ h => h) (Or.inl ⟨by kernel_rfl, ?_⟩) hHeld ?_
              rotate_left
              · intro wq hSw
                have hSc := blk_cell hSw.1; have hSl := lt_of_block hSw.1
                go_simp
                try rw [if_neg (by omega)]
                try rw [if_pos (by omega)]
                try with_reducible rfl
              try simp only [Act.put, List.getElem_toArray, List.getElem_cons_succ, List.getElem_cons_zero, List.setIfInBounds_toArray, List.set_cons_zero, List.set_cons_succ]
              refine wpAnyH_take (i := 1) (v := ?_) rfl (by kernel_rfl) (by kernel_rfl) (by kernel_rfl) (fun _ _ _ h => h) (Or.inl ⟨by kernel_rfl, ?_⟩) hHeld ?_
              rotate_left
              · intro wq hSw
                have hSc := blk_cell hSw.1; have hSl := lt_of_block hSw.1
                go_simp
                try rw [if_neg (by omega)]
                try rw [if_pos (by omega)]
                try with_reducible rfl
              try simp only [Act.put, List.getElem_toArray, List.getElem_cons_succ, List.getElem_cons_zero, List.setIfInBounds_toArray, List.set_cons_zero, List.set_cons_succ]
              refine wpAnyH_take (i := 2) (v := ?_) rfl (by kernel_rfl) (by kernel_rfl) (by kernel_rfl) (fun _ _ _ h => h) (Or.inl ⟨by kernel_rfl, ?_⟩) hHeld ?_
              rotate_left
              · intro wq hSw
                have hSc := blk_cell hSw.1; have hSl := lt_of_block hSw.1
                go_simp
                try rw [if_neg (by omega)]
                try rw [if_pos (by omega)]
                try with_reducible rfl
              try simp only [Act.put, List.getElem_toArray, List.getElem_cons_succ, List.getElem_cons_zero, List.setIfInBounds_toArray, List.set_cons_zero, List.set_cons_succ]
              refine wpAnyH_take (i := 3) (v := undef) rfl (by kernel_rfl) (by kernel_rfl) (by kernel_rfl) (fun _ _ _ h => h) (Or.inr ⟨by kernel_rfl, rfl⟩) hHeld ?_
              try simp only [Act.put, List.getElem_toArray, List.getElem_cons_succ, List.getElem_cons_zero, List.setIfInBounds_toArray, List.set_cons_zero, List.set_cons_succ]
              refine wpAnyH_take (i := 4) (v := undef) rfl (by kernel_rfl) (by kernel_rfl) (by kernel_rfl) (fun _ _ _ h => h) (Or.inr ⟨by kernel_rfl, rfl⟩) hHeld ?_
              try simp only [Act.put, List.getElem_toArray, List.getElem_cons_succ, List.getElem_cons_zero, List.setIfInBounds_toArray, List.set_cons_zero, List.set_cons_succ]
              refine wpAnyH_take (i := 5) (v := ?_) rfl (by kernel_rfl) (by kernel_rfl) (by kernel_rfl) (fun _ _ _ h => h) (Or.inl ⟨by kernel_rfl, ?_⟩) hHeld ?_
              rotate_left
              · intro wq hSw
                have hSc := blk_cell hSw.1; have hSl := lt_of_block hSw.1
                go_simp
                try rw [if_neg (by omega)]
                try rw [if_pos (by omega)]
                try with_reducible rfl
              try simp only [Act.put, List.getElem_toArray, List.getElem_cons_succ, List.getElem_cons_zero, List.setIfInBounds_toArray, List.set_cons_zero, List.set_cons_succ]
              refine wpAnyH_take (i := 6) (v := ?_) rfl (by kernel_rfl) (by kernel_rfl) (by kernel_rfl) (fun _ _ _ h => h) (Or.inl ⟨by kernel_rfl, ?_⟩) hHeld ?_
              rotate_left
              · intro wq hSw
                have hSc := blk_cell hSw.1; have hSl := lt_of_block hSw.1
                go_simp
                try rw [if_neg (by omega)]
                try rw [if_pos (by omega)]
                try with_reducible rfl
              try simp only [Act.put, List.getElem_toArray, List.getElem_cons_succ, List.getElem_cons_zero, List.setIfInBounds_toArray, List.set_cons_zero, List.set_cons_succ]
              refine wpAnyH_take (i := 7) (v := undef) rfl (by kernel_rfl) (by kernel_rfl) (by kernel_rfl) (fun _ _ _ h => h) (Or.inr ⟨by kernel_rfl, rfl⟩) hHeld ?_
              try simp only [Act.put, List.getElem_toArray, List.getElem_cons_succ, List.getElem_cons_zero, List.setIfInBounds_toArray, List.set_cons_zero, List.set_cons_succ]
              refine wpAnyH_take (i := 8) (v := undef) rfl (by kernel_rfl) (by kernel_rfl) (by kernel_rfl) (fun _ _ _ h => h) (Or.inr ⟨by kernel_rfl, rfl⟩) hHeld ?_
              try simp only [Act.put, List.getElem_toArray, List.getElem_cons_succ, List.getElem_cons_zero, List.setIfInBounds_toArray, List.set_cons_zero, List.set_cons_succ]
              refine wpAnyH_take (i := 9) (v := undef) rfl (by kernel_rfl) (by kernel_rfl) (by kernel_rfl) (fun _ _ _ h => h) (Or.inr ⟨by kernel_rfl, rfl⟩) hHeld ?_
              try simp only [Act.put, List.getElem_toArray, List.getElem_cons_succ, List.getElem_cons_zero, List.setIfInBounds_toArray, List.set_cons_zero, List.set_cons_succ]
              refine wpAnyH_take (i := 10) (v := undef) rfl (by kernel_rfl) (by kernel_rfl) (by kernel_rfl) (fun _ _ _ h => h) (Or.inr ⟨by kernel_rfl, rfl⟩) hHeld ?_
              try simp only [Act.put, List.getElem_toArray, List.getElem_cons_succ, List.getElem_cons_zero, List.setIfInBounds_toArray, List.set_cons_zero, List.set_cons_succ]
              refine wpAnyH_take (i := 11) (v := undef) rfl (by kernel_rfl) (by kernel_rfl) (by kernel_rfl) (fun _ _ _ h => h) (Or.inr ⟨by kernel_rfl, rfl⟩) hHeld ?_
              try simp only [Act.put, List.getElem_toArray, List.getElem_cons_succ, List.getElem_cons_zero, List.setIfInBounds_toArray, List.set_cons_zero, List.set_cons_succ]
              refine wpAnyH_take (i := 12) (v := undef) rfl (by kernel_rfl) (by kernel_rfl) (by kernel_rfl) (fun _ _ _ h => h) (Or.inr ⟨by kernel_rfl, rfl⟩) hHeld ?_
              try simp only [Act.put, List.getElem_toArray, List.getElem_cons_succ, List.getElem_cons_zero, List.setIfInBounds_toArray, List.set_cons_zero, List.set_cons_succ]
              refine wpAnyH_take (i := 13) (v := undef) rfl (by kernel_rfl) (by kernel_rfl) (by kernel_rfl) (fun _ _ _ h => h) (Or.inr ⟨by kernel_rfl, rfl⟩) hHeld ?_
              try simp only [Act.put, List.getElem_toArray, List.getElem_cons_succ, List.getElem_cons_zero, List.setIfInBounds_toArray, List.set_cons_zero, List.set_cons_succ]
              refine wpAnyH_take (i := 14) (v := undef) rfl (by kernel_rfl) (by kernel_rfl) (by kernel_rfl) (fun _ _ _ h => h) (Or.inr ⟨by kernel_rfl, rfl⟩) hHeld ?_
              try simp only [Act.put, List.getElem_toArray, List.getElem_cons_succ, List.getElem_cons_zero, List.setIfInBounds_toArray, List.set_cons_zero, List.set_cons_succ]
              refine wpAnyH_take (i := 15) (v := ?_) rfl (by kernel_rfl) (by kernel_rfl) (by kernel_rfl) (fun _ _ _ h => h) (Or.inl ⟨by kernel_rfl, ?_⟩) hHeld ?_
              rotate_left
              · intro wq hSw
                have hSc := blk_cell hSw.1; have hSl := lt_of_block hSw.1
                go_simp
                try rw [if_neg (by omega)]
                try rw [if_pos (by omega)]
                try with_reducible rfl
              try simp only [Act.put, List.getElem_toArray, List.getElem_cons_succ, List.getElem_cons_zero, List.setIfInBounds_toArray, List.set_cons_zero, List.set_cons_succ]
              refine wpAnyH_take (i := 16) (v := ?_) rfl (by kernel_rfl) (by kernel_rfl) (by kernel_rfl) (fun _ _ _ h => h) (Or.inl ⟨by kernel_rfl, ?_⟩) hHeld ?_
              rotate_left
              · intro wq hSw
                have hSc := blk_cell hSw.1; have hSl := lt_of_block hSw.1
                go_simp
                try rw [if_neg (by omega)]
                try rw [if_pos (by omega)]
                try with_reducible rfl
              try simp only [Act.put, List.getElem_toArray, List.getElem_cons_succ, List.getElem_cons_zero, List.setIfInBounds_toArray, List.set_cons_zero, List.set_cons_succ]
              refine wpAnyH_take (i := 17) (v := undef) rfl (by kernel_rfl) (by kernel_rfl) (by kernel_rfl) (fun _ _ _ h => h) (Or.inr ⟨by kernel_rfl, rfl⟩) hHeld ?_
              try simp only [Act.put, List.getElem_toArray, List.getElem_cons_succ, List.getElem_cons_zero, List.setIfInBounds_toArray, List.set_cons_zero, List.set_cons_succ]
              refine wpAnyH_take (i := 18) (v := undef) rfl (by kernel_rfl) (by kernel_rfl) (by kernel_rfl) (fun _ _ _ h => h) (Or.inr ⟨by kernel_rfl, rfl⟩) hHeld ?_
              try simp only [Act.put, List.getElem_toArray, List.getElem_cons_succ, List.getElem_cons_zero, List.setIfInBounds_toArray, List.set_cons_zero, List.set_cons_succ]
              refine wpAnyH_take (i := 19) (v := undef) rfl (by kernel_rfl) (by kernel_rfl) (by kernel_rfl) (fun _ _ _ h => h) (Or.inr ⟨by kernel_rfl, rfl⟩) hHeld ?_
              try simp only [Act.put, List.getElem_toArray, List.getElem_cons_succ, List.getElem_cons_zero, List.setIfInBounds_toArray, List.set_cons_zero, List.set_cons_succ]
              refine wpAnyH_take (i := 20) (v := undef) rfl (by kernel_rfl) (by kernel_rfl) (by kernel_rfl) (fun _ _ _ h => h) (Or.inr ⟨by kernel_rfl, rfl⟩) hHeld ?_
              try simp only [Act.put, List.getElem_toArray, List.getElem_cons_succ, List.getElem_cons_zero, List.setIfInBounds_toArray, List.set_cons_zero, List.set_cons_succ]
              refine wpAnyH_take (i := 21) (v := ?_) rfl (by kernel_rfl) (by kernel_rfl) (by kernel_rfl) (fun _ _ _ h => h) (Or.inl ⟨by kernel_rfl, ?_⟩) hHeld ?_
              rotate_left
              · intro wq hSw
                have hSc := blk_cell hSw.1; have hSl := lt_of_block hSw.1
                go_simp
                try rw [if_neg (by omega)]
                try rw [if_pos (by omega)]
                try with_reducible rfl
              try simp only [Act.put, List.getElem_toArray, List.getElem_cons_succ, List.getElem_cons_zero, List.setIfInBounds_toArray, List.set_cons_zero, List.set_cons_succ]
              refine wpAnyH_take (i := 22) (v := ?_) rfl (by kernel_rfl) (by kernel_rfl) (by kernel_rfl) (fun _ _ _ h => h) (Or.inl ⟨by kernel_rfl, ?_⟩) hHeld ?_
              rotate_left
              · intro wq hSw
                have hSc := blk_cell hSw.1; have hSl := lt_of_block hSw.1
                go_simp
                try rw [if_neg (by omega)]
                try rw [if_pos (by omega)]
                try with_reducible rfl
              try simp only [Act.put, List.getElem_toArray, List.getElem_cons_succ, List.getElem_cons_zero, List.setIfInBounds_toArray, List.set_cons_zero, List.set_cons_succ]
              refine wpAnyH_take (i := 23) (v := undef) rfl (by kernel_rfl) (by kernel_rfl) (by kernel_rfl) (fun _ _ _ h => h) (Or.inr ⟨by kernel_rfl, rfl⟩) hHeld ?_
              try simp only [Act.put, List.getElem_toArray, List.getElem_cons_succ, List.getElem_cons_zero, List.setIfInBounds_toArray, List.set_cons_zero, List.set_cons_succ]
              refine wpAnyH_take (i := 24) (v := undef) rfl (by kernel_rfl) (by kernel_rfl) (by kernel_rfl) (fun _ _ _ h => h) (Or.inr ⟨by kernel_rfl, rfl⟩) hHeld ?_
              try simp only [Act.put, List.getElem_toArray, List.getElem_cons_succ, List.getElem_cons_zero, List.setIfInBounds_toArray, List.set_cons_zero, List.set_cons_succ]
              refine wpAnyH_take (i := 25) (v := undef) rfl (by kernel_rfl) (by kernel_rfl) (by kernel_rfl) (fun _ _ _ h => h) (Or.inr ⟨by kernel_rfl, rfl⟩) hHeld ?_
              try simp only [Act.put, List.getElem_toArray, List.getElem_cons_succ, List.getElem_cons_zero, List.setIfInBounds_toArray, List.set_cons_zero, List.set_cons_succ]
              refine wpAnyH_take (i := 26) (v := undef) rfl (by kernel_rfl) (by kernel_rfl) (by kernel_rfl) (fun _ _ _ h => h) (Or.inr ⟨by kernel_rfl, rfl⟩) hHeld ?_
              try simp only [Act.put, List.getElem_toArray, List.getElem_cons_succ, List.getElem_cons_zero, List.setIfInBounds_toArray, List.set_cons_zero, List.set_cons_succ]
              refine wpAnyH_take (i := 27) (v := ?_) rfl (by kernel_rfl) (by kernel_rfl) (by kernel_rfl) (fun _ _ _ h => h) (Or.inl ⟨by kernel_rfl, ?_⟩) hHeld ?_
              rotate_left
              · intro wq hSw
                have hSc := blk_cell hSw.1; have hSl := lt_of_block hSw.1
                go_simp
                try rw [if_neg (by omega)]
                try rw [if_pos (by omega)]
                try with_reducible rfl
              try simp only [Act.put, List.getElem_toArray, List.getElem_cons_succ, List.getElem_cons_zero, List.setIfInBounds_toArray, List.set_cons_zero, List.set_cons_succ]
              refine wpAnyH_done (by kernel_rfl) ?_ _
              go_wp2_with fail
              go_ret
              exact ⟨by first | (rw [hpf.out]; rfl) | rw [hpf.out], hHeld.2⟩
          · obtain rfl : j = 240 := by omega
            have hpf : pagesF 2 l = 0 := by
              rcases Nat.eq_zero_or_pos (pagesF 2 l) with h | h
              · exact h
              · have := run_map Hr.out (map_pagesF (k := 2) (l := l) (by omega)).2
                have := pagesF_le 2 l
                omega
            have d8 : decide ((240 : Int) < 8) = false := by decide
            have d64 : decide ((64 : Int) < 240) = true := by decide
            have Hpf := Lib.hid hpf
            have hjs2 : 240 ≤ s.size := by omega
            clear hpf
            go_wp2_with fail
            refine wp_region_held_drew (S := (fun W' => W'.heap[w.heap.size]? = some (.cells #[.int .i64 2, .int .i64 d, .int .i64 x, .string s] 23 (0, 0)) ∧ Below w.heap.size w W')) (by kernel_rfl) (⟨blp, below_dr hbel⟩) (fun hHeld => ?_)
            refine wpAnyH_take (i := 0) (v := ?_) rfl (by kernel_rfl) (by kernel_rfl) (by kernel_rfl) (fun _ _ _ h => h) (Or.inl ⟨by kernel_rfl, ?_⟩) hHeld ?_
            rotate_left
            · intro wq hSw
              have hSc := blk_cell hSw.1; have hSl := lt_of_block hSw.1
              go_simp
              try rw [if_neg (by omega)]
              try rw [if_pos (by omega)]
              try with_reducible rfl
            try simp only [Act.put, List.getElem_toArray, List.getElem_cons_succ, List.getElem_cons_zero, List.setIfInBounds_toArray, List.set_cons_zero, List.set_cons_succ]
            refine wpAnyH_take (i := 1) (v := ?_) rfl (by kernel_rfl) (by kernel_rfl) (by kernel_rfl) (fun _ _ _ h => h) (Or.inl ⟨by kernel_rfl, ?_⟩) hHeld ?_
            rotate_left
            · intro wq hSw
              have hSc := blk_cell hSw.1; have hSl := lt_of_block hSw.1
              go_simp
              try rw [if_neg (by omega)]
              try rw [if_pos (by omega)]
              try with_reducible rfl
            try simp only [Act.put, List.getElem_toArray, List.getElem_cons_succ, List.getElem_cons_zero, List.setIfInBounds_toArray, List.set_cons_zero, List.set_cons_succ]
            refine wpAnyH_take (i := 2) (v := ?_) rfl (by kernel_rfl) (by kernel_rfl) (by kernel_rfl) (fun _ _ _ h => h) (Or.inl ⟨by kernel_rfl, ?_⟩) hHeld ?_
            rotate_left
            · intro wq hSw
              have hSc := blk_cell hSw.1; have hSl := lt_of_block hSw.1
              go_simp
              try rw [if_neg (by omega)]
              try rw [if_pos (by omega)]
              try with_reducible rfl
            try simp only [Act.put, List.getElem_toArray, List.getElem_cons_succ, List.getElem_cons_zero, List.setIfInBounds_toArray, List.set_cons_zero, List.set_cons_succ]
            refine wpAnyH_take (i := 3) (v := ?_) rfl (by kernel_rfl) (by kernel_rfl) (by kernel_rfl) (fun _ _ _ h => h) (Or.inl ⟨by kernel_rfl, ?_⟩) hHeld ?_
            rotate_left
            · intro wq hSw
              have hSc := blk_cell hSw.1; have hSl := lt_of_block hSw.1
              go_simp
              try rw [if_neg (by omega)]
              try rw [if_pos (by omega)]
              try with_reducible rfl
            try simp only [Act.put, List.getElem_toArray, List.getElem_cons_succ, List.getElem_cons_zero, List.setIfInBounds_toArray, List.set_cons_zero, List.set_cons_succ]
            refine wpAnyH_take (i := 4) (v := ?_) rfl (by kernel_rfl) (by kernel_rfl) (by kernel_rfl) (fun _ _ _ h => h) (Or.inl ⟨by kernel_rfl, ?_⟩) hHeld ?_
            rotate_left
            · intro wq hSw
              have hSc := blk_cell hSw.1; have hSl := lt_of_block hSw.1
              go_simp
              try rw [if_neg (by omega)]
              try rw [if_pos (by omega)]
              try with_reducible rfl
            try simp only [Act.put, List.getElem_toArray, List.getElem_cons_succ, List.getElem_cons_zero, List.setIfInBounds_toArray, List.set_cons_zero, List.set_cons_succ]
            refine wpAnyH_take (i := 5) (v := ?_) rfl (by kernel_rfl) (by kernel_rfl) (by kernel_rfl) (fun _ _ _ h => h) (Or.inl ⟨by kernel_rfl, ?_⟩) hHeld ?_
            rotate_left
            · intro wq hSw
              have hSc := blk_cell hSw.1; have hSl := lt_of_block hSw.1
              go_simp
              try rw [if_neg (by omega)]
              try rw [if_pos (by omega)]
              try with_reducible rfl
            try simp only [Act.put, List.getElem_toArray, List.getElem_cons_succ, List.getElem_cons_zero, List.setIfInBounds_toArray, List.set_cons_zero, List.set_cons_succ]
            refine wpAnyH_take (i := 6) (v := ?_) rfl (by kernel_rfl) (by kernel_rfl) (by kernel_rfl) (fun _ _ _ h => h) (Or.inl ⟨by kernel_rfl, ?_⟩) hHeld ?_
            rotate_left
            · intro wq hSw
              have hSc := blk_cell hSw.1; have hSl := lt_of_block hSw.1
              go_simp
              try rw [if_neg (by omega)]
              try rw [if_pos (by omega)]
              try with_reducible rfl
            try simp only [Act.put, List.getElem_toArray, List.getElem_cons_succ, List.getElem_cons_zero, List.setIfInBounds_toArray, List.set_cons_zero, List.set_cons_succ]
            refine wpAnyH_take (i := 7) (v := undef) rfl (by kernel_rfl) (by kernel_rfl) (by kernel_rfl) (fun _ _ _ h => h) (Or.inr ⟨by kernel_rfl, rfl⟩) hHeld ?_
            try simp only [Act.put, List.getElem_toArray, List.getElem_cons_succ, List.getElem_cons_zero, List.setIfInBounds_toArray, List.set_cons_zero, List.set_cons_succ]
            refine wpAnyH_take (i := 8) (v := undef) rfl (by kernel_rfl) (by kernel_rfl) (by kernel_rfl) (fun _ _ _ h => h) (Or.inr ⟨by kernel_rfl, rfl⟩) hHeld ?_
            try simp only [Act.put, List.getElem_toArray, List.getElem_cons_succ, List.getElem_cons_zero, List.setIfInBounds_toArray, List.set_cons_zero, List.set_cons_succ]
            refine wpAnyH_take (i := 9) (v := undef) rfl (by kernel_rfl) (by kernel_rfl) (by kernel_rfl) (fun _ _ _ h => h) (Or.inr ⟨by kernel_rfl, rfl⟩) hHeld ?_
            try simp only [Act.put, List.getElem_toArray, List.getElem_cons_succ, List.getElem_cons_zero, List.setIfInBounds_toArray, List.set_cons_zero, List.set_cons_succ]
            refine wpAnyH_take (i := 10) (v := undef) rfl (by kernel_rfl) (by kernel_rfl) (by kernel_rfl) (fun _ _ _ h => h) (Or.inr ⟨by kernel_rfl, rfl⟩) hHeld ?_
            try simp only [Act.put, List.getElem_toArray, List.getElem_cons_succ, List.getElem_cons_zero, List.setIfInBounds_toArray, List.set_cons_zero, List.set_cons_succ]
            refine wpAnyH_take (i := 11) (v := undef) rfl (by kernel_rfl) (by kernel_rfl) (by kernel_rfl) (fun _ _ _ h => h) (Or.inr ⟨by kernel_rfl, rfl⟩) hHeld ?_
            try simp only [Act.put, List.getElem_toArray, List.getElem_cons_succ, List.getElem_cons_zero, List.setIfInBounds_toArray, List.set_cons_zero, List.set_cons_succ]
            refine wpAnyH_take (i := 12) (v := undef) rfl (by kernel_rfl) (by kernel_rfl) (by kernel_rfl) (fun _ _ _ h => h) (Or.inr ⟨by kernel_rfl, rfl⟩) hHeld ?_
            try simp only [Act.put, List.getElem_toArray, List.getElem_cons_succ, List.getElem_cons_zero, List.setIfInBounds_toArray, List.set_cons_zero, List.set_cons_succ]
            refine wpAnyH_take (i := 13) (v := undef) rfl (by kernel_rfl) (by kernel_rfl) (by kernel_rfl) (fun _ _ _ h => h) (Or.inr ⟨by kernel_rfl, rfl⟩) hHeld ?_
            try simp only [Act.put, List.getElem_toArray, List.getElem_cons_succ, List.getElem_cons_zero, List.setIfInBounds_toArray, List.set_cons_zero, List.set_cons_succ]
            refine wpAnyH_take (i := 14) (v := undef) rfl (by kernel_rfl) (by kernel_rfl) (by kernel_rfl) (fun _ _ _ h => h) (Or.inr ⟨by kernel_rfl, rfl⟩) hHeld ?_
            try simp only [Act.put, List.getElem_toArray, List.getElem_cons_succ, List.getElem_cons_zero, List.setIfInBounds_toArray, List.set_cons_zero, List.set_cons_succ]
            refine wpAnyH_take (i := 15) (v := ?_) rfl (by kernel_rfl) (by kernel_rfl) (by kernel_rfl) (fun _ _ _ h => h) (Or.inl ⟨by kernel_rfl, ?_⟩) hHeld ?_
            rotate_left
            · intro wq hSw
              have hSc := blk_cell hSw.1; have hSl := lt_of_block hSw.1
              go_simp
              try rw [if_neg (by omega)]
              try rw [if_pos (by omega)]
              try with_reducible rfl
            try simp only [Act.put, List.getElem_toArray, List.getElem_cons_succ, List.getElem_cons_zero, List.setIfInBounds_toArray, List.set_cons_zero, List.set_cons_succ]
            refine wpAnyH_take (i := 16) (v := ?_) rfl (by kernel_rfl) (by kernel_rfl) (by kernel_rfl) (fun _ _ _ h => h) (Or.inl ⟨by kernel_rfl, ?_⟩) hHeld ?_
            rotate_left
            · intro wq hSw
              have hSc := blk_cell hSw.1; have hSl := lt_of_block hSw.1
              go_simp
              try rw [if_neg (by omega)]
              try rw [if_pos (by omega)]
              try with_reducible rfl
            try simp only [Act.put, List.getElem_toArray, List.getElem_cons_succ, List.getElem_cons_zero, List.setIfInBounds_toArray, List.set_cons_zero, List.set_cons_succ]
            refine wpAnyH_take (i := 17) (v := undef) rfl (by kernel_rfl) (by kernel_rfl) (by kernel_rfl) (fun _ _ _ h => h) (Or.inr ⟨by kernel_rfl, rfl⟩) hHeld ?_
            try simp only [Act.put, List.getElem_toArray, List.getElem_cons_succ, List.getElem_cons_zero, List.setIfInBounds_toArray, List.set_cons_zero, List.set_cons_succ]
            refine wpAnyH_take (i := 18) (v := undef) rfl (by kernel_rfl) (by kernel_rfl) (by kernel_rfl) (fun _ _ _ h => h) (Or.inr ⟨by kernel_rfl, rfl⟩) hHeld ?_
            try simp only [Act.put, List.getElem_toArray, List.getElem_cons_succ, List.getElem_cons_zero, List.setIfInBounds_toArray, List.set_cons_zero, List.set_cons_succ]
            refine wpAnyH_take (i := 19) (v := undef) rfl (by kernel_rfl) (by kernel_rfl) (by kernel_rfl) (fun _ _ _ h => h) (Or.inr ⟨by kernel_rfl, rfl⟩) hHeld ?_
            try simp only [Act.put, List.getElem_toArray, List.getElem_cons_succ, List.getElem_cons_zero, List.setIfInBounds_toArray, List.set_cons_zero, List.set_cons_succ]
            refine wpAnyH_take (i := 20) (v := undef) rfl (by kernel_rfl) (by kernel_rfl) (by kernel_rfl) (fun _ _ _ h => h) (Or.inr ⟨by kernel_rfl, rfl⟩) hHeld ?_
            try simp only [Act.put, List.getElem_toArray, List.getElem_cons_succ, List.getElem_cons_zero, List.setIfInBounds_toArray, List.set_cons_zero, List.set_cons_succ]
            refine wpAnyH_take (i := 21) (v := ?_) rfl (by kernel_rfl) (by kernel_rfl) (by kernel_rfl) (fun _ _ _ h => h) (Or.inl ⟨by kernel_rfl, ?_⟩) hHeld ?_
            rotate_left
            · intro wq hSw
              have hSc := blk_cell hSw.1; have hSl := lt_of_block hSw.1
              go_simp
              try rw [if_neg (by omega)]
              try rw [if_pos (by omega)]
              try with_reducible rfl
            try simp only [Act.put, List.getElem_toArray, List.getElem_cons_succ, List.getElem_cons_zero, List.setIfInBounds_toArray, List.set_cons_zero, List.set_cons_succ]
            refine wpAnyH_take (i := 22) (v := ?_) rfl (by kernel_rfl) (by kernel_rfl) (by kernel_rfl) (fun _ _ _ h => h) (Or.inl ⟨by kernel_rfl, ?_⟩) hHeld ?_
            rotate_left
            · intro wq hSw
              have hSc := blk_cell hSw.1; have hSl := lt_of_block hSw.1
              go_simp
              try rw [if_neg (by omega)]
              try rw [if_pos (by omega)]
              try with_reducible rfl
            try simp only [Act.put, List.getElem_toArray, List.getElem_cons_succ, List.getElem_cons_zero, List.setIfInBounds_toArray, List.set_cons_zero, List.set_cons_succ]
            refine wpAnyH_take (i := 23) (v := undef) rfl (by kernel_rfl) (by kernel_rfl) (by kernel_rfl) (fun _ _ _ h => h) (Or.inr ⟨by kernel_rfl, rfl⟩) hHeld ?_
            try simp only [Act.put, List.getElem_toArray, List.getElem_cons_succ, List.getElem_cons_zero, List.setIfInBounds_toArray, List.set_cons_zero, List.set_cons_succ]
            refine wpAnyH_take (i := 24) (v := undef) rfl (by kernel_rfl) (by kernel_rfl) (by kernel_rfl) (fun _ _ _ h => h) (Or.inr ⟨by kernel_rfl, rfl⟩) hHeld ?_
            try simp only [Act.put, List.getElem_toArray, List.getElem_cons_succ, List.getElem_cons_zero, List.setIfInBounds_toArray, List.set_cons_zero, List.set_cons_succ]
            refine wpAnyH_take (i := 25) (v := undef) rfl (by kernel_rfl) (by kernel_rfl) (by kernel_rfl) (fun _ _ _ h => h) (Or.inr ⟨by kernel_rfl, rfl⟩) hHeld ?_
            try simp only [Act.put, List.getElem_toArray, List.getElem_cons_succ, List.getElem_cons_zero, List.setIfInBounds_toArray, List.set_cons_zero, List.set_cons_succ]
            refine wpAnyH_take (i := 26) (v := undef) rfl (by kernel_rfl) (by kernel_rfl) (by kernel_rfl) (fun _ _ _ h => h) (Or.inr ⟨by kernel_rfl, rfl⟩) hHeld ?_
            try simp only [Act.put, List.getElem_toArray, List.getElem_cons_succ, List.getElem_cons_zero, List.setIfInBounds_toArray, List.set_cons_zero, List.set_cons_succ]
            refine wpAnyH_take (i := 27) (v := ?_) rfl (by kernel_rfl) (by kernel_rfl) (by kernel_rfl) (fun _ _ _ h => h) (Or.inl ⟨by kernel_rfl, ?_⟩) hHeld ?_
            rotate_left
            · intro wq hSw
              have hSc := blk_cell hSw.1; have hSl := lt_of_block hSw.1
              go_simp
              try rw [if_neg (by omega)]
              try rw [if_pos (by omega)]
              try with_reducible rfl
            try simp only [Act.put, List.getElem_toArray, List.getElem_cons_succ, List.getElem_cons_zero, List.setIfInBounds_toArray, List.set_cons_zero, List.set_cons_succ]
            refine wpAnyH_done (by kernel_rfl) ?_ _
            go_wp2_with fail
            go_ret
            exact ⟨by first | (rw [Hpf.out]; rfl) | rw [Hpf.out], hHeld.2⟩
    · have hpf : pagesF k l = 0 := by unfold pagesF; rw [if_neg (fun h => h240 h.2)]
      have hss := str_size l
      generalize str l = s at hss ⊢
      have hk' : (k != 2) = false := by simpa using hk
      have h2' : ((s.size : Int) != 240) = true := by simp; omega
      clear hk
      go_enter Tryd.func11, Tryd.ntmps11
      go_wp2
      go_ret
      exact ⟨by rw [hpf]; rfl, below_al (Below.refl _ w) _⟩
  · have hpf : pagesF k l = 0 := by unfold pagesF; rw [if_neg (fun h => hk h.1)]
    generalize str l = s
    have hk' : (k != 2) = true := by simpa using hk
    go_enter Tryd.func11, Tryd.ntmps11
    go_wp2
    go_ret
    exact ⟨by rw [hpf]; rfl, below_al (Below.refl _ w) _⟩
end Go.Proofs.YtgafmbdledpblaaDoor.Sp
