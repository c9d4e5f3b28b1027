/- The law DirTurns: its walk. -/
import Derived.Test.YthekmakdbkdmdaaDoorDirSets
namespace Go.Proofs.YthekmakdbkdmdaaDoor.Dr
open Go.RowKit Go.Proofs.YthekmakdbkdmdaaDoor.Mem Go.Proofs.YthekmakdbkdmdaaDoor.Pg

theorem rp_halve (x : Int) (hx : mayP x) (j : Nat) (h : j < 5) (w : World) :
    Calls Tryd.prog 10 #[.agg #[.int .i64 1, .int .i64 ((j : Int) + 1), .int .i64 0, .string (bdy (rp x (j + 1)))]] w fun e w' =>
      e = .returned (.tuple #[.agg #[.int .i64 1, .int .i64 j, .int .i64 0, .string (bdy (rp x j))], .int .i64 0]) ∧ Below w.heap.size w w' := by
  rw [← rp_succ]
  exact good_halve (rp_good x hx j (by omega)) _ rfl h w
theorem rp_depth (x : Int) (hx : mayP x) (j : Nat) (h : j < 5) (w : World) :
    Calls Tryd.prog 11 #[.agg #[.int .i64 1, .int .i64 ((j : Int) + 1), .int .i64 0, .string (bdy (rp x (j + 1)))]] w fun e w' =>
      e = .returned (.int .i64 ((j : Int) + 1)) ∧ Below w.heap.size w w' := by
  refine good_depth (d := j + 1) ?_ w
  have := rp_good x hx (j + 1) (by omega)
  rw [Int.natCast_add] at this
  exact this
theorem rem_two (q : Nat) (hq : 1 ≤ q) (a : Int) : ∃ B : Nat, B < q ∧ (a.tmod q + q).tmod q = B ∧ -(q : Int) < a.tmod q ∧ a.tmod q < q := by
  have h1 : -(q : Int) < a.tmod q := by
    have := Int.lt_tmod_of_pos a (show (0 : Int) < q by omega)
    exact this
  have h2 : a.tmod q < (q : Int) := Int.tmod_lt_of_pos a (by omega)
  refine ⟨((a.tmod q + q).tmod q).toNat, ?_, ?_, h1, h2⟩
  · have h3 : (a.tmod q + q).tmod q < (q : Int) := Int.tmod_lt_of_pos _ (by omega)
    omega
  · have h3 : 0 ≤ (a.tmod q + q).tmod q := Int.tmod_nonneg _ (by omega)
    omega

set_option maxRecDepth 100000 in
set_option maxHeartbeats 4000000 in
theorem turns_yes (n : Int) (m : Nat) (a y : Int) (w : World) (hn1 : 2 ≤ n) (hn2 : n < 64) (hm : m ≤ 5) (hy1 : 2 ≤ y) (hy2 : y < 64) :
    Calls Tryd.prog 3 #[.int .i64 n, .int .i64 m, .int .i64 a, .int .i64 y] w fun e w' => e = .returned (.bool true) ∧ Below w.heap.size w w' := by
  have hal' := fun w => alive_any w
  have hmn : mayP n := ⟨hn1, hn2⟩
  have hmy : mayP y := ⟨hy1, hy2⟩
  have hnew := good_new n hmn
  have hdou := Lib.hid (rp_double n hmn)
  have hhal := Lib.hid (rp_halve n hmn)
  have hdep := Lib.hid (rp_depth n hmn)
  go_enter Tryd.func3, Tryd.ntmps3
  go_wp2_with fail
  refine (hal' _).mono ?_
  rintro e w1 ⟨rfl, hb1⟩
  go_wp2_with fail
  refine (hnew _).mono ?_
  rintro e w2 ⟨rfl, hb2⟩
  have b2 := below_tr hb1 hb2
  have hl2 : w.heap.size ≤ w2.heap.size := b2.size
  clear hb1 hb2 hal' hnew
  go_wp2_with fail
  go_loopw [11] (fun i wr => ∃ j : Nat, i = .int .i64 j ∧ j ≤ m ∧ wr.heap[w2.heap.size]? = some (.cells #[.int .i64 1, .int .i64 j, .int .i64 0, .string (bdy (rp n j))] 24 (0, 0)) ∧ Below w.heap.size w wr) (fun i _ => m - (intOf i).toNat)
  case atStart => exact ⟨0, rfl, by omega, heap_alloc_new w2 _, below_al b2 _⟩
  case round =>
    obtain ⟨j, rfl, hj, f1, fb⟩ := hrel
    have c1 := blk_cell f1
    have c1f := blk_free f1
    have z1 := lt_of_block f1
    by_cases hlt : j < m
    · have hd := Lib.hid (hdou.out j (by omega))
      have hh := Lib.hid (hhal.out j (by omega))
      have he := Lib.hid (hdep.out j (by omega))
      have i1 : IntKind.i64.wrap ((j : Int) + 1) = (j : Int) + 1 := IntWalk.i64_in _ (by omega)
      generalize bdy (rp n j) = S0 at *
      generalize hS1 : bdy (rp n (j + 1)) = S1 at *
      have HS1 := Lib.hid hS1
      clear hS1
      go_wp2_with fail
      refine (hd.out _).mono ?_
      rintro e w3 ⟨rfl, hb3⟩
      have k3 := blk_keep f1 hb3
      have b3 := below_base fb fb.size hb3
      have c3 := blk_cell k3
      have c3f := blk_free k3
      have z3 := lt_of_block k3
      clear f1 c1 c1f z1 hb3 fb
      go_wp2_with fail
      refine (hh.out _).mono ?_
      rintro e w4 ⟨rfl, hb4⟩
      have q4 := blk_below hb4
      have k4 := blk_keep (hal k3) hb4
      have b4 := below_base b3 b3.size (below_box hb4)
      have c4 := blk_cell k4
      have c4f := blk_free k4
      have d4 := blk_cell q4
      have z4 := lt_of_block k4
      have y4 := lt_of_block q4
      clear k3 c3 c3f z3 hb4 b3
      go_wp2_with fail
      refine (he.out _).mono ?_
      rintro e w5 ⟨rfl, hb5⟩
      have q5 := blk_keep (hal q4) hb5
      have k5 := blk_keep (hal k4) hb5
      have b5 := below_base b4 b4.size (below_box hb5)
      have c5 := blk_cell k5
      have c5f := blk_free k5
      have d5 := blk_cell q5
      have z5 := lt_of_block k5
      have y5 := lt_of_block q5
      clear k4 c4 c4f z4 q4 d4 y4 hb5 b4
      go_wp2_with fail
      case roundEnd =>
        refine ⟨⟨j + 1, by simp, by omega, ?_, below_set4 b5 hl2 _ _ _ _⟩, by simp only [intOf]; omega⟩
        rw [HS1.out]
        exact set4_same k5 (.int .i64 1) (.int .i64 ((j : Int) + 1)) (.int .i64 0) (.string S1)
    · obtain rfl : j = m := by omega
      obtain ⟨pe, pl, pu⟩ := pow_small j hm
      obtain ⟨q, hq⟩ : ∃ q, q = 2 ^ j := ⟨_, rfl⟩
      have hqw : wrap64 ((2 : Int) ^ j) = (q : Int) := by rw [Int.toNat_natCast] at pe; rw [pe, ← hq]; exact (wrap_small _ (by omega)).1
      obtain ⟨B, hBq, hB, ht1, ht2⟩ := rem_two q (by omega) a
      obtain ⟨T, hT⟩ : ∃ T, T = a.tmod q := ⟨_, rfl⟩
      rw [← hT] at hB ht1 ht2
      obtain ⟨U, hU⟩ : ∃ U, U = T + q := ⟨_, rfl⟩
      rw [← hU] at hB
      have i1 : IntKind.i64.wrap T = T := IntWalk.i64_in _ (by omega)
      have i2 : IntKind.i64.wrap (T + q) = U := by rw [IntWalk.i64_in _ (by omega)]; exact hU.symm
      have i3 : IntKind.i64.wrap (B : Int) = B := IntWalk.i64_in _ (by omega)
      have i4 : a.tmod q = T := hT.symm
      have i5 : ((q : Int) == 0) = false := by simp; omega
      have hq32 : q ≤ 32 := by omega
      have hg := rp_good n hmn j hm
      have hlen : (rp n j).length = q := by rw [hq]; simp [rp]
      have hset := Lib.hid (fun w => good_set hg j B y (Nat.le_refl _) (by omega) (by rw [← hq]; omega) hmy w)
      have hgs : Hid (Good j j (setTo (rp n j) q B y q)) := hg.set hmy
      rw [← hq, hlen] at hset
      have Hq := Lib.hid hq
      have HT := Lib.hid hT
      have HU := Lib.hid hU
      have Hg := Lib.hid hg
      by_cases h5 : j = 5
      · have hfull := Lib.hid (fun w => good_full hg h5 w)
        have i6 : ((j : Int) == 5) = true := by simp; omega
        clear h5
        clear hq hT hU hg hlen pe
        generalize hS0 : bdy (rp n j) = S0 at *
        generalize hX : bdy (setTo (rp n j) q B y q) = S1 at *
        have HX := Lib.hid hX
        clear hX hS0
        go_wp2_with fail
        refine (hfull.out _).mono ?_
        rintro e w4 ⟨rfl, hb4⟩
        have k4 := blk_keep f1 hb4
        have b4 := below_base fb fb.size hb4
        clear f1 c1 c1f z1 fb hb4 hfull
        have f1 := k4
        have fb := b4
        clear k4 b4
        have c1 := blk_cell f1
        have c1f := blk_free f1
        have z1 := lt_of_block f1
        go_wp2_with fail
        refine (hset.out _).mono ?_
        rintro e w5 ⟨rfl, hb5⟩
        have b5 : Below w.heap.size w w5 := by first | exact below_base fb fb.size hb5 | exact below_base fb fb.size (below_box hb5)
        clear hb5 hset f1 c1 c1f z1 fb
        have hatt := fun w t (ht : t < q) => good_at (w := w) hgs.out t (by rw [setTo_len, Hg.out.len, ← Hq.out]; exact ht)
        have hatn := Lib.hid (fun w => good_at_no (w := w) hgs.out q (.inr (by rw [setTo_len, Hg.out.len, ← Hq.out]; exact Int.le_refl _)))
        rw [HX.out] at hatt hatn
        have Hat := Lib.hid hatt
        clear hatt
        go_wp2_with fail
        try rw [hqw]
        go_loopw [22] (fun i wr => ∃ t : Nat, i = .int .i64 t ∧ t ≤ q ∧ wr.heap[w5.heap.size]? = some (.cells #[.int .i64 1, .int .i64 j, .int .i64 0, .string S1] 24 (0, 0)) ∧ Below w.heap.size w wr) (fun i _ => q - (intOf i).toNat)
        case atStart => exact ⟨0, rfl, by omega, heap_alloc_new w5 _, below_al b5 _⟩
        case round =>
          obtain ⟨t, rfl, ht, f1, fb⟩ := hrel
          have c1 := blk_cell f1
          have z1 := lt_of_block f1
          by_cases hlt : t < q
          · have i7 : IntKind.i64.wrap ((t : Int) + 1) = (t : Int) + 1 := IntWalk.i64_in _ (by omega)
            have ha := Lib.hid (fun w => Hat.out w t hlt)
            rw [setTo_get _ _ _ _ _ _ (by rw [Hg.out.len, ← Hq.out]; exact hlt), Nat.mod_eq_of_lt hlt] at ha
            have hr2 : (rp n j).getD t 0 = n := by
              rw [rp, List.getD_eq_getElem?_getD, List.getElem?_replicate, if_pos (by rw [← Hq.out]; exact hlt)]
              rfl
            rw [hr2] at ha
            by_cases htB : t = B
            · rw [if_pos ⟨hlt, by rw [htB]⟩] at ha
              subst htB
              go_wp2_with fail
              refine (ha.out _).mono ?_
              rintro e w6 ⟨rfl, hb6⟩
              have k6 := blk_keep f1 hb6
              have b6 := below_base fb fb.size hb6
              clear f1 hb6 fb c1 z1
              go_wp2_with fail
              case roundEnd => exact ⟨⟨t + 1, by simp, by omega, k6, b6⟩, by simp only [intOf]; omega⟩
            · rw [if_neg (fun h => htB (by have := h.2; omega))] at ha
              have htB' : ((t : Int) == (B : Int)) = false := by simp; omega
              go_wp2_with fail
              refine (ha.out _).mono ?_
              rintro e w6 ⟨rfl, hb6⟩
              have k6 := blk_keep f1 hb6
              have b6 := below_base fb fb.size hb6
              clear f1 hb6 fb c1 z1
              go_wp2_with fail
              case roundEnd => exact ⟨⟨t + 1, by simp, by omega, k6, b6⟩, by simp only [intOf]; omega⟩
          · obtain rfl : t = q := by omega
            go_wp2_with fail
            refine (hatn.out _).mono ?_
            rintro e w6 ⟨rfl, hb6⟩
            have b6 := below_base fb fb.size hb6
            clear f1 hb6 fb c1 z1
            go_wp2
            go_ret
            exact ⟨rfl, b6⟩
      · clear hq hT hU hg hlen pe
        generalize hS0 : bdy (rp n j) = S0 at *
        generalize hX : bdy (setTo (rp n j) q B y q) = S1 at *
        have HX := Lib.hid hX
        clear hX hS0
        go_wp2_with fail
        refine (hset.out _).mono ?_
        rintro e w5 ⟨rfl, hb5⟩
        have b5 : Below w.heap.size w w5 := by first | exact below_base fb fb.size hb5 | exact below_base fb fb.size (below_box hb5)
        clear hb5 hset f1 c1 c1f z1 fb
        have hatt := fun w t (ht : t < q) => good_at (w := w) hgs.out t (by rw [setTo_len, Hg.out.len, ← Hq.out]; exact ht)
        have hatn := Lib.hid (fun w => good_at_no (w := w) hgs.out q (.inr (by rw [setTo_len, Hg.out.len, ← Hq.out]; exact Int.le_refl _)))
        rw [HX.out] at hatt hatn
        have Hat := Lib.hid hatt
        clear hatt
        go_wp2_with fail
        try rw [hqw]
        go_loopw [22] (fun i wr => ∃ t : Nat, i = .int .i64 t ∧ t ≤ q ∧ wr.heap[w5.heap.size]? = some (.cells #[.int .i64 1, .int .i64 j, .int .i64 0, .string S1] 24 (0, 0)) ∧ Below w.heap.size w wr) (fun i _ => q - (intOf i).toNat)
        case atStart => exact ⟨0, rfl, by omega, heap_alloc_new w5 _, below_al b5 _⟩
        case round =>
          obtain ⟨t, rfl, ht, f1, fb⟩ := hrel
          have c1 := blk_cell f1
          have z1 := lt_of_block f1
          by_cases hlt : t < q
          · have i7 : IntKind.i64.wrap ((t : Int) + 1) = (t : Int) + 1 := IntWalk.i64_in _ (by omega)
            have ha := Lib.hid (fun w => Hat.out w t hlt)
            rw [setTo_get _ _ _ _ _ _ (by rw [Hg.out.len, ← Hq.out]; exact hlt), Nat.mod_eq_of_lt hlt] at ha
            have hr2 : (rp n j).getD t 0 = n := by
              rw [rp, List.getD_eq_getElem?_getD, List.getElem?_replicate, if_pos (by rw [← Hq.out]; exact hlt)]
              rfl
            rw [hr2] at ha
            by_cases htB : t = B
            · rw [if_pos ⟨hlt, by rw [htB]⟩] at ha
              subst htB
              go_wp2_with fail
              refine (ha.out _).mono ?_
              rintro e w6 ⟨rfl, hb6⟩
              have k6 := blk_keep f1 hb6
              have b6 := below_base fb fb.size hb6
              clear f1 hb6 fb c1 z1
              go_wp2_with fail
              case roundEnd => exact ⟨⟨t + 1, by simp, by omega, k6, b6⟩, by simp only [intOf]; omega⟩
            · rw [if_neg (fun h => htB (by have := h.2; omega))] at ha
              have htB' : ((t : Int) == (B : Int)) = false := by simp; omega
              go_wp2_with fail
              refine (ha.out _).mono ?_
              rintro e w6 ⟨rfl, hb6⟩
              have k6 := blk_keep f1 hb6
              have b6 := below_base fb fb.size hb6
              clear f1 hb6 fb c1 z1
              go_wp2_with fail
              case roundEnd => exact ⟨⟨t + 1, by simp, by omega, k6, b6⟩, by simp only [intOf]; omega⟩
          · obtain rfl : t = q := by omega
            go_wp2_with fail
            refine (hatn.out _).mono ?_
            rintro e w6 ⟨rfl, hb6⟩
            have b6 := below_base fb fb.size hb6
            clear f1 hb6 fb c1 z1
            go_wp2
            go_ret
            exact ⟨rfl, b6⟩

set_option maxRecDepth 100000 in
set_option maxHeartbeats 4000000 in
theorem turns_any (n d a y : Int) (w : World) :
    Calls Tryd.prog 3 #[.int .i64 n, .int .i64 d, .int .i64 a, .int .i64 y] w fun e w' => e = .returned (.bool true) ∧ Below w.heap.size w w' := by
  by_cases h : 2 ≤ n ∧ n < 64 ∧ 0 ≤ d ∧ d ≤ 5 ∧ 2 ≤ y ∧ y < 64
  · obtain ⟨m, rfl⟩ := Int.eq_ofNat_of_zero_le h.2.2.1
    exact turns_yes n m a y w h.1 h.2.1 (by omega) h.2.2.2.2.1 h.2.2.2.2.2
  · have hal' := fun w => alive_any w
    go_enter Tryd.func3, Tryd.ntmps3
    by_cases h0 : n < 2
    · go_wp2_with (fail)
      refine (hal' _).mono ?_
      rintro e w1 ⟨rfl, hb1⟩
      go_wp2
      go_ret
      exact ⟨rfl, hb1⟩
    ·
      by_cases h1 : 64 ≤ n
      · go_wp2_with (fail)
        refine (hal' _).mono ?_
        rintro e w1 ⟨rfl, hb1⟩
        go_wp2
        go_ret
        exact ⟨rfl, hb1⟩
      ·
        by_cases h2 : d < 0
        · go_wp2_with (fail)
          refine (hal' _).mono ?_
          rintro e w1 ⟨rfl, hb1⟩
          go_wp2
          go_ret
          exact ⟨rfl, hb1⟩
        ·
          by_cases h3 : 5 < d
          · go_wp2_with (fail)
            refine (hal' _).mono ?_
            rintro e w1 ⟨rfl, hb1⟩
            go_wp2
            go_ret
            exact ⟨rfl, hb1⟩
          ·
            by_cases h4 : y < 2
            · go_wp2_with (fail)
              refine (hal' _).mono ?_
              rintro e w1 ⟨rfl, hb1⟩
              go_wp2
              go_ret
              exact ⟨rfl, hb1⟩
            ·
              have h5 : 64 ≤ y := by omega
              go_wp2_with (fail)
              refine (hal' _).mono ?_
              rintro e w1 ⟨rfl, hb1⟩
              go_wp2
              go_ret
              exact ⟨rfl, hb1⟩
end Go.Proofs.YthekmakdbkdmdaaDoor.Dr
