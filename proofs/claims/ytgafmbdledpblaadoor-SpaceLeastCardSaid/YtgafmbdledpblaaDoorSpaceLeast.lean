/- The walk of SpaceLeast: the least free page is taken, whichever were given back. -/
import Derived.Test.YtgafmbdledpblaaDoorSpaceSteps
import Derived.Test.YtgafmbdledpblaaDoorSpaceAll
namespace Go.Proofs.YtgafmbdledpblaaDoor.Sp
open Go.RowKit Go.Proofs.YtgafmbdledpblaaDoor.Mem Go.Proofs.YtgafmbdledpblaaDoor.Pg

/-- The pages below t are used, and t is free, or there is no free page. -/
structure LeastAt (n t : Nat) (l : List UInt8) : Prop where
  map : IsMap n l
  used : ∀ i, i < t → bt l i = 1
  free : t < n → bt l t = 2
theorem LeastAt.give {n t : Nat} {l : List UInt8} (h : LeastAt n t l) {x : Nat} (hx2 : 2 ≤ x) (hx : x < n) (hm : IsMap n (l.set x 2)) (ht : t ≤ n) : LeastAt n (min t x) (l.set x 2) := by
  have hl := h.map.len
  have hle := h.map.le
  have hbt := bt_set l x 2 (by omega)
  refine ⟨hm, fun i hi => ?_, fun hlt => ?_⟩
  · rw [hbt, if_neg (by omega)]
    exact h.used i (by omega)
  · rw [hbt]
    by_cases hc : x ≤ t
    · rw [if_pos (by omega)]; rfl
    · have h2 := h.free (by omega)
      rw [show min t x = t by omega, if_neg (by omega)]
      exact h2

set_option maxRecDepth 100000 in
set_option maxHeartbeats 6000000 in
theorem least_any (n : Int) (A : Option Addr) (len cap : Nat) (K : Nat → Int) (w : World) (hops : 0 < len → ∃ b off, A = some ⟨b, off, none⟩ ∧ b < w.heap.size ∧ ∀ i, i < len → w.cell? ⟨b, off + i, none⟩ = some (.int .i64 (K i))) :
    Calls Tryd.prog 5 #[.int .i64 n, .slice A len cap] w fun e w' => e = .returned (.bool true) ∧ Below w.heap.size w w' := by
  have ha := fun w => alive_any w
  by_cases h8 : n < 8
  · have d8 : decide (n < 8) = true := by simpa using h8
    go_enter Tryd.func5, Tryd.ntmps5
    go_wp2_with fail
    refine (ha _).mono ?_
    rintro e w1 ⟨rfl, hb1⟩
    go_wp2
    go_ret
    exact ⟨rfl, hb1⟩
  have d8 : decide (n < 8) = false := by simpa using h8
  by_cases h64 : 64 < n
  · have d64 : decide (64 < n) = true := by simpa using h64
    go_enter Tryd.func5, Tryd.ntmps5
    go_wp2_with fail
    refine (ha _).mono ?_
    rintro e w1 ⟨rfl, hb1⟩
    go_wp2
    go_ret
    exact ⟨rfl, hb1⟩
  have d64 : decide (64 < n) = false := by simpa using h64
  by_cases h60 : 60 < len
  · have d60 : decide ((60 : Int) < (len : Int)) = true := by simp; omega
    go_enter Tryd.func5, Tryd.ntmps5
    go_wp2_with fail
    refine (ha _).mono ?_
    rintro e w1 ⟨rfl, hb1⟩
    go_wp2
    go_ret
    exact ⟨rfl, hb1⟩
  have d60 : decide ((60 : Int) < (len : Int)) = false := by simp; omega
  have d60' : decide (60 < len) = false := by simp; omega
  obtain ⟨m, rfl⟩ : ∃ m : Nat, n = m := ⟨n.toNat, by omega⟩
  have hm8 : 8 ≤ m := by omega
  have hm64 : m ≤ 64 := by omega
  have hnew := fun w => new_ok m w hm8 hm64
  have hs0 := Lib.hid (atS_new m hm8 hm64)
  obtain ⟨S0, hS0⟩ : ∃ S0, S0 = str (newL m) := ⟨_, rfl⟩
  rw [← hS0] at hnew hs0
  clear hS0
  have Hops := Lib.hid hops
  have hlen60 : len ≤ 60 := by omega
  clear h8 h64 h60 hops
  go_enter Tryd.func5, Tryd.ntmps5
  go_wp2_with fail
  refine (ha _).mono ?_
  rintro e w1 ⟨rfl, hb1⟩
  go_wp2_with fail
  refine (hnew _).mono ?_
  rintro e w2 ⟨rfl, hb2⟩
  have hbw2 := below_tr hb1 hb2
  clear hb1 hb2
  go_wp2_with fail
  go_loopw [7] (fun i wr => ∃ (k : Nat) (s : ByteArray), i = .int .i64 k ∧ 2 ≤ k ∧ k ≤ m ∧ Hid (AtS m k s) ∧ Below w.heap.size w wr ∧ wr.heap[w2.heap.size]? = some (.cells #[.int .i64 2, .int .i64 0, .int .i64 0, .string s] 23 (0, 0))) (fun i _ => m - (intOf i).toNat)
  case atStart => exact ⟨2, S0, rfl, by omega, by omega, hs0, below_al hbw2 _, heap_alloc_new w2 _⟩
  case round =>
    obtain ⟨k, s, rfl, hk2, hkm, hat, hbel, hp⟩ := hrel
    clear hs0 hnew
    have hcp := blk_cell hp
    by_cases hlt : k < m
    · obtain ⟨s', hat', htk⟩ := take_at hat.out hk2 hlt
      have Hat' := Lib.hid hat'
      clear hat' hat
      go_wp2_with fail
      refine (htk _).mono ?_
      rintro e w3 ⟨rfl, hb3⟩
      have hp3 := blk_keep hp hb3
      have hbw3 := below_tr hbel hb3
      clear hcp hp hbel hb3 htk
      have hcp3 := blk_cell hp3
      have hfp3 := blk_free hp3
      have hzp3 := lt_of_block hp3
      go_wp2
      go_roundw
      case rel => exact ⟨k + 1, s', by go_num, by omega, by omega, Hat', below_set4 hbw3 hbw2.size _ _ _ _, set4_same hp3 _ _ _ _⟩
      case measure => simp [intOf]; omega
    · obtain rfl : k = m := by omega
      have hzp := lt_of_block hp
      have hmap0 : Hid (LeastAt k k (hat.out.choose)) := Lib.hid ⟨hat.out.choose_spec.2.map, hat.out.choose_spec.2.used, fun h => absurd h (by omega)⟩
      have hss := hat.out.choose_spec.1
      generalize hat.out.choose = l0 at hmap0 hss
      have Hss := Lib.hid hss
      clear hss hat
      go_wp2_with fail
      go_loopw [8, 54] (fun u i wx => ∃ (j t : Nat) (l : List UInt8), u = .int .i64 t ∧ i = .int .i64 j ∧ j ≤ len ∧ 2 ≤ t ∧ t ≤ k ∧ Hid (LeastAt k t l) ∧ Below w.heap.size w wx ∧ wx.heap[w2.heap.size]? = some (.cells #[.int .i64 2, .int .i64 0, .int .i64 0, .string (str l)] 23 (0, 0))) (fun _ i _ => len - (intOf i).toNat)
      case atStart => exact ⟨0, k, l0, rfl, rfl, by omega, by omega, by omega, hmap0, hbel, by rw [← Hss.out]; exact hp⟩
      case round =>
        obtain ⟨j, t, l, rfl, rfl, hj, ht2, htk, hmap, hbx, blp0⟩ := hrel
        clear hcp hzp hp hbel hmap0 Hss
        have hcp0 := blk_cell blp0
        have hzp0 := lt_of_block blp0
        have hfp0 := blk_free blp0
        by_cases hlt : j < len
        · obtain ⟨b, off, rfl, hbl, hcell⟩ := Hops.out (by omega)
          have hx0 := (hbx.cell (p := ⟨b, off + j, none⟩) hbl).trans (hcell j hlt)
          clear hcell Hops
          generalize K j = g at *
          have hlt' : (j : Int) < (len : Int) := by omega
          have hq : (6 : Int) ≤ (k : Int) - 2 ∧ (k : Int) - 2 ≤ 62 := by omega
          have hwq : IntKind.i64.wrap ((k : Int) - 2) = (k : Int) - 2 := IntWalk.i64_in _ (by omega)
          obtain ⟨q, hq'⟩ : ∃ q, q = (k : Int) - 2 := ⟨_, rfl⟩
          have ha1 := Int.tmod_lt_of_pos g (b := (k : Int) - 2) (by omega)
          have ha2 : -((k : Int) - 2) < g.tmod ((k : Int) - 2) := Int.lt_tmod_of_pos g (by omega)
          clear hq' q
          have hr1 := Int.emod_nonneg (g.tmod ((k : Int) - 2) + (k : Int) - 2) (b := (k : Int) - 2) (by omega)
          have hr2 := Int.emod_lt_of_pos (g.tmod ((k : Int) - 2) + (k : Int) - 2) (b := (k : Int) - 2) (by omega)
          obtain ⟨x, hx⟩ : ∃ x : Nat, (2 + (g.tmod ((k : Int) - 2) + (k : Int) - 2) % ((k : Int) - 2)) = (x : Int) := ⟨(2 + (g.tmod ((k : Int) - 2) + (k : Int) - 2) % ((k : Int) - 2)).toNat, by omega⟩
          have hxw : wrap64 (2 + (g.tmod ((k : Int) - 2) + (k : Int) - 2) % ((k : Int) - 2)) = (x : Int) := by rw [hx]; exact IntWalk.wrap64_in (x : Int) (by omega)
          have hx2 : 2 ≤ x := by omega
          have hxk : x < k := by omega
          clear hr1 hr2 hx
          have hl := hmap.out.map.len
          have hus := fun w => used_any 2 0 0 x l w (by omega)
          rcases give_map hmap.out.map x with ⟨hno, hgv⟩ | ⟨x', hxx, _, _, hbx', hmapx, hgv⟩
          · rw [usedF_map_false hmap.out.map x (by rw [hno x rfl hx2 hxk]; decide)] at hus
            obtain ⟨s, hs⟩ : ∃ s, s = str l := ⟨_, rfl⟩
            rw [← hs] at hgv hus blp0 hcp0
            have Hs := Lib.hid hs
            clear hs hno
            go_wp2_with fail
            refine (hgv _).mono ?_
            rintro e w3 ⟨rfl, hb3⟩
            have blp3 := blk_keep (blp0) hb3
            have hbw3 := below_tr (hbx) hb3
            clear blp0 hcp0 hzp0 hfp0 hgv hx0 hb3
            have hcp3 := blk_cell blp3
            have hzp3 := lt_of_block blp3
            have hfp3 := blk_free blp3
            go_wp2_with fail
            refine (hus _).mono ?_
            rintro e w4 ⟨rfl, hb4⟩
            have blp4 := blk_keep (hal blp3) hb4
            have hbw4 := below_tr (below_al hbw3 _) hb4
            clear blp3 hcp3 hzp3 hfp3 hus hb4
            have hcp4 := blk_cell blp4
            have hzp4 := lt_of_block blp4
            have hfp4 := blk_free blp4
            go_wp2
            go_roundw
            case rel => exact ⟨j + 1, t, l, rfl, by go_num, by omega, ht2, htk, hmap, hbw4, by rw [← Hs.out]; exact blp4⟩
            case measure => simp [intOf]; omega
          · obtain rfl : x' = x := by omega
            rw [(usedF_map hmap.out.map x').2 ⟨by omega, by omega, by rw [Int.toNat_natCast]; exact hbx'⟩] at hus
            obtain ⟨s, hs⟩ : ∃ s, s = str l := ⟨_, rfl⟩
            rw [← hs] at hgv hus blp0 hcp0
            clear hs
            obtain ⟨s1, hs1⟩ : ∃ s1, s1 = str (l.set x' 2) := ⟨_, rfl⟩
            rw [← hs1] at hgv
            have Hs1 := Lib.hid hs1
            have Hmap := Lib.hid (hmap.out.give hx2 hxk hmapx htk)
            clear hs1 hmapx hbx'
            go_wp2_with fail
            refine (hgv _).mono ?_
            rintro e w3 ⟨rfl, hb3⟩
            have blp3 := blk_keep (blp0) hb3
            have hbw3 := below_tr (hbx) hb3
            clear blp0 hcp0 hzp0 hfp0 hgv hx0 hb3
            have hcp3 := blk_cell blp3
            have hzp3 := lt_of_block blp3
            have hfp3 := blk_free blp3
            go_wp2_with fail
            refine (hus _).mono ?_
            rintro e w4 ⟨rfl, hb4⟩
            have blp4 := blk_keep (hal blp3) hb4
            have blq4 := blk_keep (heap_alloc_new w3 _) hb4
            have hbw4 := below_tr (below_al hbw3 _) hb4
            clear blp3 hcp3 hzp3 hfp3 hus hb4
            have hcp4 := blk_cell blp4
            have hzp4 := lt_of_block blp4
            have hfp4 := blk_free blp4
            have hcq4 := blk_cell blq4
            have hzq4 := lt_of_block blq4
            have hfq4 := blk_free blq4
            go_wp2
            go_roundw
            case rel => exact ⟨j + 1, min t x', l.set x' 2, by congr 1; omega, by go_num, by omega, by omega, by omega, Hmap, below_set4 hbw4 hbw2.size _ _ _ _, by rw [← Hs1.out]; exact set4_same blp4 _ _ _ _⟩
            case measure => simp [intOf]; omega
        · obtain rfl : j = len := by omega
          rcases take_map hmap.out.map with ⟨_, hall, htt⟩ | ⟨i, hi2, hik, hbi, hall, _, htt⟩
          · have htk2 : t = k := by
              rcases Nat.lt_or_ge t k with h | h
              · have h1 := hmap.out.free h
                rw [hall t h] at h1
                simp at h1
              · omega
            obtain ⟨s, hs⟩ : ∃ s, s = str l := ⟨_, rfl⟩
            rw [← hs] at htt blp0 hcp0
            clear hs hall hmap
            subst htk2
            go_wp2_with fail
            refine (htt _).mono ?_
            rintro e w3 ⟨rfl, hb3⟩
            have hbw3 := below_tr hbx hb3
            clear hb3 htt hcp0 blp0 hfp0 hzp0
            go_wp2
            go_ret
            exact ⟨rfl, below_al hbw3 _⟩
          · have hti : t = i := by
              rcases Nat.lt_trichotomy t i with h | h | h
              · have h1 := hmap.out.free (by omega)
                rw [hall t h] at h1
                simp at h1
              · exact h
              · rw [hmap.out.used i h] at hbi
                simp at hbi
            have dtk : ((t : Int) == (k : Int)) = false := by simp; omega
            have dtk2 : (t == k) = false := by simp; omega
            have dtk3 : ¬ t = k := by omega
            obtain ⟨s, hs⟩ : ∃ s, s = str l := ⟨_, rfl⟩
            rw [← hs] at htt blp0 hcp0
            clear hs hall hmap
            obtain ⟨s1, hs1⟩ : ∃ s1, s1 = str (l.set i 1) := ⟨_, rfl⟩
            rw [← hs1] at htt
            clear hs1 hbi
            subst hti
            go_wp2_with fail
            refine (htt _).mono ?_
            rintro e w3 ⟨rfl, hb3⟩
            have hbw3 := below_tr hbx hb3
            clear hb3 htt hcp0 blp0 hfp0 hzp0
            go_wp2
            go_ret
            exact ⟨rfl, below_al hbw3 _⟩
end Go.Proofs.YtgafmbdledpblaaDoor.Sp
