/- The law DirDoubles: its walk. -/
import Derived.Test.YthekmakdbkdmdaaDoorDirRead
namespace Go.Proofs.YthekmakdbkdmdaaDoor.Dr
open Go.RowKit Go.Proofs.YthekmakdbkdmdaaDoor.Mem Go.Proofs.YthekmakdbkdmdaaDoor.Pg

/-- Set, of a page that is known by its entries: another such, or refused. -/
theorem good_set_any {d : Nat} {D : Int} {xs : List Int} (h : Good d D xs) (b dep y : Int) (w : World) :
    Calls Tryd.prog 12 #[.agg #[.int .i64 1, .int .i64 D, .int .i64 0, .string (bdy xs)], .int .i64 b, .int .i64 dep, .int .i64 y] w fun e w' =>
      ((∃ ys, Good d D ys ∧ ys.length = xs.length ∧ e = .returned (.tuple #[.agg #[.int .i64 1, .int .i64 D, .int .i64 0, .string (bdy ys)], .int .i64 0])) ∨
        e = .returned (.tuple #[.agg #[.int .i64 0, .int .i64 0, .int .i64 0, .string ⟨#[]⟩], .int .i64 1])) ∧ Below w.heap.size w w' := by
  refine (set_any 1 D 0 (bodyOf xs) b dep y w).mono ?_
  rintro e w' ⟨⟨hn, _⟩ | ⟨n, hd, _, rfl⟩ | ⟨n, hd, hok, rfl⟩, hb⟩
  · exact absurd h.isDir (hn _)
  · exact ⟨.inr rfl, hb⟩
  · obtain rfl := isDir_same hd h.isDir
    refine ⟨.inl ⟨setTo xs (2 ^ dep.toNat) b y xs.length, h.set hok.2.2.2.2, setTo_len _ _ _ _ _, ?_⟩, hb⟩
    rw [h.ents]
    rfl

theorem getD_left {xs : List Int} (ys : List Int) (t : Nat) (h : t < xs.length) : (xs ++ ys).getD t 0 = xs.getD t 0 := by
  simp [List.getD_eq_getElem?_getD, List.getElem?_append_left h]
theorem getD_right (xs : List Int) (t : Nat) : (xs ++ xs).getD (t + xs.length) 0 = xs.getD t 0 := by
  rw [List.getD_eq_getElem?_getD, List.getD_eq_getElem?_getD, List.getElem?_append_right (by omega), Nat.add_sub_cancel]
theorem ints_at {w : World} {base g cap n : Nat} {e : TypeId} {xs : List Int} (h : w.ownsRow base e 1 (.slice (some ⟨g, 0, none⟩) n cap) n (ints xs)) (j : Nat) (hj : j < n) : w.cell? ⟨g, j, none⟩ = some (.int .i64 (xs.getD j 0)) := by
  have hl : xs.length = n := by have := h.1; simp [ints] at this; exact this
  refine own_at h j _ ?_
  simp [ints, List.getElem?_eq_getElem (show j < xs.length by omega), List.getD_eq_getElem?_getD]

set_option maxRecDepth 100000 in
set_option maxHeartbeats 4000000 in
theorem doubles_yes (n : Int) (A : Option Addr) (len cap : Nat) (F : Nat → Nat → Int) (w : World) (hn1 : 2 ≤ n) (hn2 : n < 64) (hl : len ≤ 30) (hops : Ops w A len F) :
    Calls Tryd.prog 5 #[.int .i64 n, .slice A len cap] w fun e w' => e = .returned (.bool true) ∧ Below w.heap.size w w' := by
  have hal' := fun w => alive_any w
  have hmn : mayP n := ⟨hn1, hn2⟩
  have hnew := good_new n hmn
  have Hops := Lib.hid hops
  clear hops
  go_enter Tryd.func5, Tryd.ntmps5
  go_wp2_with fail
  refine (hal' _).mono ?_
  rintro e w1 ⟨rfl, hb1⟩
  go_wp2_with fail
  refine (hnew _).mono ?_
  rintro e w2 ⟨rfl, hb2⟩
  have b2 := below_tr hb1 hb2
  have hl2 : w.heap.size ≤ w2.heap.size := b2.size
  clear hb1 hb2 hal' hnew
  go_wp2_with fail
  have Hg0 := Lib.hid (Good.one n hmn)
  go_loopw [42] (fun i wr => ∃ (j d : Nat) (D : Int) (xs : List Int), i = .int .i64 j ∧ j ≤ len ∧ Hid (Good d D xs) ∧ wr.heap[w2.heap.size]? = some (.cells #[.int .i64 1, .int .i64 D, .int .i64 0, .string (bdy xs)] 24 (0, 0)) ∧ Below w.heap.size w wr) (fun i _ => len - (intOf i).toNat)
  case atStart => exact ⟨0, 0, 0, [n], rfl, by omega, Hg0, heap_alloc_new w2 _, below_al b2 _⟩
  case round =>
    obtain ⟨j, d, D, xs, rfl, hj, Hg, f1, fb⟩ := hrel
    have c1 := blk_cell f1
    have c1f := blk_free f1
    have z1 := lt_of_block f1
    by_cases hlt : j < len
    · obtain ⟨b, off, rfl, hbl, hc⟩ := (Hops.out.below fb) (by omega)
      have hc0 := hc j hlt 0 (by omega)
      have hc1 := hc j hlt 1 (by omega)
      have hc2 := hc j hlt 2 (by omega)
      have hc3 := hc j hlt 3 (by omega)
      clear hc
      simp only [Nat.add_zero] at hc0
      have i1 : IntKind.i64.wrap ((j : Int) + 1) = (j : Int) + 1 := IntWalk.i64_in _ (by omega)
      have hlen := Hg.out.le
      have hall := Lib.hid (fun w => good_all Hg.out xs.length rfl w)
      have hsetA := Lib.hid (fun b dep y w => good_set_any Hg.out b dep y w)
      generalize hS0 : bdy xs = S0 at *
      have HS0 := Lib.hid hS0
      clear hS0
      go_wp2_with fail
      refine (hall.out _).mono ?_
      rintro e w3 ⟨g, cap, rfl, ho, hgl, hb3⟩
      have hpo : w2.heap.size ≠ wr.heap.size := by omega
      have k3 := blk_keep (hal f1) hb3
      have q3 := blk_below hb3
      have b3 := below_base fb fb.size (below_box hb3)
      have r3 := ints_at ho
      have c3 := blk_cell k3
      have c3f := blk_free k3
      have d3 := blk_cell q3
      have z3 := lt_of_block k3
      have y3 := lt_of_block q3
      clear f1 c1 c1f z1 hb3 fb ho hc0 hc1 hc2 hc3 hbl
      by_cases h4 : d < 5
      · have hD := Hg.out.hD
        obtain ⟨E, hE⟩ : ∃ E, E = D + 1 := ⟨_, rfl⟩
        have hdou := Lib.hid (fun w => good_double Hg.out E hE h4 w)
        have Hg2 := Lib.hid (Hg.out.twice h4 hE)
        have hall2 := Lib.hid (fun w => good_all Hg2.out (2 * xs.length) (by simp; omega) w)
        have hsetB := Lib.hid (fun b dep y w => good_set_any Hg2.out b dep y w)
        clear hD hE
        rw [HS0.out] at hdou
        generalize hS1 : bdy (xs ++ xs) = S1 at *
        have HS1 := Lib.hid hS1
        clear hS1
        go_wp2_with fail
        refine (hdou.out _).mono ?_
        rintro e w4 ⟨rfl, hb4⟩
        have k4 := blk_keep k3 hb4
        have q4 := blk_keep q3 hb4
        have b4 := below_base b3 b3.size hb4
        have r4 := fun j hj => (hb4.cell (p := ⟨g, j, none⟩) hgl).trans (r3 j hj)
        have g4 : g < w4.heap.size := Nat.lt_of_lt_of_le hgl hb4.size
        have c4 := blk_cell k4
        have c4f := blk_free k4
        have d4 := blk_cell q4
        have z4 := lt_of_block k4
        have y4 := lt_of_block q4
        clear k3 q3 b3 r3 hgl c3 c3f d3 z3 y3 hb4
        go_wp2_with fail
        refine (hall2.out _).mono ?_
        rintro e w5 ⟨g2, cap2, rfl, ho, hg5, hb5⟩
        have k5 := blk_keep (hal k4) hb5
        have q5 := blk_keep (hal q4) hb5
        have v5 := blk_below hb5
        have b5 := below_base b4 b4.size (below_box hb5)
        have r5 := fun j hj => ((below_box hb5).cell (p := ⟨g, j, none⟩) g4).trans (r4 j hj)
        have g5 : g < w5.heap.size := Nat.lt_of_lt_of_le g4 (below_box hb5).size
        have s5 := ints_at ho
        have hpv : w2.heap.size ≠ w4.heap.size := by omega
        have hov : wr.heap.size ≠ w4.heap.size := by omega
        have c5 := blk_cell k5
        have c5f := blk_free k5
        have d5 := blk_cell q5
        have e5 := blk_cell v5
        have z5 := lt_of_block k5
        have y5 := lt_of_block q5
        have x5 := lt_of_block v5
        have i2 : IntKind.i64.wrap (2 * (xs.length : Int)) = ((2 * xs.length : Nat) : Int) := by rw [IntWalk.i64_in _ (by omega)]; omega
        clear k4 q4 b4 r4 g4 c4 c4f d4 z4 y4 hb5 ho
        go_wp2_with fail
        go_loopw [65] (fun i wi => ∃ t : Nat, i = .int .i64 t ∧ t ≤ xs.length ∧ Below w5.heap.size w5 wi) (fun i _ => xs.length - (intOf i).toNat)
        case atStart => exact ⟨0, rfl, by omega, Below.refl _ _⟩
        case round =>
          obtain ⟨t, rfl, ht, fi⟩ := hrel
          by_cases htl : t < xs.length
          · obtain ⟨X, hX⟩ : ∃ X, X = xs.getD t 0 := ⟨_, rfl⟩
            have hx1 := (fi.cell (p := ⟨g, t, none⟩) g5).trans (r5 t htl)
            have hx2 := (fi.cell (p := ⟨g2, t, none⟩) hg5).trans (s5 t (by omega))
            have hx3 := (fi.cell (p := ⟨g2, t + xs.length, none⟩) hg5).trans (s5 (t + xs.length) (by omega))
            rw [getD_left _ _ htl] at hx2
            rw [getD_right] at hx3
            rw [← hX] at hx1 hx2 hx3
            have HX := Lib.hid hX
            clear hX
            have i3 : IntKind.i64.wrap ((t : Int) + 1) = (t : Int) + 1 := IntWalk.i64_in _ (by omega)
            have i4 : IntKind.i64.wrap ((t : Int) + (xs.length : Int)) = ((t + xs.length : Nat) : Int) := by rw [IntWalk.i64_in _ (by omega)]; omega
            go_wp2_with fail
            case roundEnd => exact ⟨⟨t + 1, by simp, by omega, fi⟩, by simp only [intOf]; omega⟩
          · obtain rfl : t = xs.length := by omega
            have k6 := blk_keep k5 fi
            have q6 := blk_keep q5 fi
            have v6 := blk_keep v5 fi
            have b6 := below_base b5 b5.size fi
            have c6 := blk_cell k6
            have c6f := blk_free k6
            have d6 := blk_cell q6
            have e6 := blk_cell v6
            have z6 := lt_of_block k6
            have y6 := lt_of_block q6
            have x6 := lt_of_block v6
            clear k5 q5 v5 b5 r5 s5 c5 c5f d5 e5 z5 y5 x5 fi
            go_wp2_with fail
            refine (hsetB.out _ _ _ _).mono ?_
            have k7 := set4_same k6 (.int .i64 1) (.int .i64 E) (.int .i64 0) (.string S1)
            have b7 := below_set4 b6 hl2 (.int .i64 1) (.int .i64 E) (.int .i64 0) (.string S1)
            rintro e w8 ⟨⟨ys, gy, ly, rfl⟩ | rfl, hb8⟩
            · have k8 := blk_keep k7 hb8
              have b8 := below_base b7 b7.size hb8
              have c8 := blk_cell k8
              have c8f := blk_free k8
              have z8 := lt_of_block k8
              have Gy := Lib.hid gy
              clear k6 q6 v6 b6 c6 c6f d6 e6 z6 y6 x6 k7 b7 hb8 gy
              generalize hS2 : bdy ys = S2 at *
              have HS2 := Lib.hid hS2
              clear hS2
              go_wp2_with fail
              case roundEnd =>
                refine ⟨⟨j + 1, d + 1, E, ys, by simp, by omega, Gy, ?_, below_al (below_set4 b8 hl2 _ _ _ _) _⟩, by simp only [intOf]; omega⟩
                rw [HS2.out]
                exact hal <| set4_same k8 (.int .i64 1) (.int .i64 E) (.int .i64 0) (.string S2)
            · have k8 := blk_keep k7 hb8
              have b8 := below_base b7 b7.size hb8
              have c8 := blk_cell k8
              have c8f := blk_free k8
              have z8 := lt_of_block k8
              clear k6 q6 v6 b6 c6 c6f d6 e6 z6 y6 x6 k7 b7 hb8
              go_wp2_with fail
              case roundEnd =>
                refine ⟨⟨j + 1, d + 1, E, xs ++ xs, by simp, by omega, Hg2, ?_, below_al b8 _⟩, by simp only [intOf]; omega⟩
                rw [HS1.out]
                exact hal k8
      · have hd5 : d = 5 := by have := Hg.out.hi; omega
        have hfull := Lib.hid (fun w => good_full Hg.out hd5 w)
        have hx32 : xs.length = 32 := by rw [Hg.out.len, hd5]
        have hx32' : ((xs.length : Int) != 32) = false := by rw [hx32]; rfl
        rw [HS0.out] at hfull
        clear hd5 hx32 h4
        go_wp2_with fail
        refine (hfull.out _).mono ?_
        rintro e w4 ⟨rfl, hb4⟩
        have k4 := blk_keep k3 hb4
        have q4 := blk_keep q3 hb4
        have b4 := below_base b3 b3.size hb4
        have c4 := blk_cell k4
        have c4f := blk_free k4
        have d4 := blk_cell q4
        have z4 := lt_of_block k4
        have y4 := lt_of_block q4
        clear k3 q3 b3 r3 hgl c3 c3f d3 z3 y3 hb4
        go_wp2_with fail
        refine (hsetA.out _ _ _ _).mono ?_
        rintro e w8 ⟨⟨ys, gy, ly, rfl⟩ | rfl, hb8⟩
        · have k8 := blk_keep (hal k4) hb8
          have b8 := below_base b4 b4.size (below_box hb8)
          have c8 := blk_cell k8
          have c8f := blk_free k8
          have z8 := lt_of_block k8
          have Gy := Lib.hid gy
          clear k4 q4 b4 c4 c4f d4 z4 y4 hb8 gy
          generalize hS2 : bdy ys = S2 at *
          have HS2 := Lib.hid hS2
          clear hS2
          go_wp2_with fail
          case roundEnd =>
            refine ⟨⟨j + 1, d, D, ys, by simp, by omega, Gy, ?_, below_al (below_set4 b8 hl2 _ _ _ _) _⟩, by simp only [intOf]; omega⟩
            rw [HS2.out]
            exact hal <| set4_same k8 (.int .i64 1) (.int .i64 D) (.int .i64 0) (.string S2)
        · have k8 := blk_keep (hal k4) hb8
          have b8 := below_base b4 b4.size (below_box hb8)
          have c8 := blk_cell k8
          have c8f := blk_free k8
          have z8 := lt_of_block k8
          clear k4 q4 b4 c4 c4f d4 z4 y4 hb8
          go_wp2_with fail
          case roundEnd =>
            refine ⟨⟨j + 1, d, D, xs, by simp, by omega, Hg, ?_, below_al b8 _⟩, by simp only [intOf]; omega⟩
            rw [HS0.out]
            exact hal k8
    · obtain rfl : j = len := by omega
      go_wp2_with fail
      go_ret
      exact ⟨rfl, fb⟩

set_option maxRecDepth 100000 in
set_option maxHeartbeats 4000000 in
theorem doubles_any (n : Int) (A : Option Addr) (len cap : Nat) (F : Nat → Nat → Int) (w : World) (hops : Ops w A len F) :
    Calls Tryd.prog 5 #[.int .i64 n, .slice A len cap] w fun e w' => e = .returned (.bool true) ∧ Below w.heap.size w w' := by
  by_cases h : 2 ≤ n ∧ n < 64 ∧ len ≤ 30
  · exact doubles_yes n A len cap F w h.1 h.2.1 h.2.2 hops
  · have hal' := fun w => alive_any w
    clear hops
    go_enter Tryd.func5, Tryd.ntmps5
    by_cases h0 : n < 2
    · go_wp2_with (fail)
      refine (hal' _).mono ?_
      rintro e w1 ⟨rfl, hb1⟩
      go_wp2
      go_ret
      exact ⟨rfl, hb1⟩
    · by_cases h1 : 64 ≤ n
      · go_wp2_with (fail)
        refine (hal' _).mono ?_
        rintro e w1 ⟨rfl, hb1⟩
        go_wp2
        go_ret
        exact ⟨rfl, hb1⟩
      · have h2 : 30 < len := by omega
        have h3 : (30 : Int) < (len : Int) := by omega
        go_wp2_with (fail)
        refine (hal' _).mono ?_
        rintro e w1 ⟨rfl, hb1⟩
        go_wp2
        go_ret
        exact ⟨rfl, hb1⟩
end Go.Proofs.YthekmakdbkdmdaaDoor.Dr
