/- The walk of SpaceAll: all pages but two may be taken, each once; given back they are free again. -/
import Derived.Test.YtgafmbdledpblaaDoorSpaceAlive
namespace Go.Proofs.YtgafmbdledpblaaDoor.Sp
open Go.RowKit Go.Proofs.YtgafmbdledpblaaDoor.Mem Go.Proofs.YtgafmbdledpblaaDoor.Pg

/-- A map of n pages of which the first k are used. -/
structure TakenTo (n k : Nat) (l : List UInt8) : Prop where
  map : IsMap n l
  used : ∀ i, i < k → bt l i = 1
  free : ∀ i, k ≤ i → i < n → bt l i = 2
def AtS (n k : Nat) (s : ByteArray) : Prop := ∃ l, s = str l ∧ TakenTo n k l

theorem atS_new (n : Nat) (h8 : 8 ≤ n) (h64 : n ≤ 64) : AtS n 2 (str (newL n)) := by
  have hb := bt_newL n (by omega)
  refine ⟨_, rfl, isMap_new n h8 h64, ?_, ?_⟩
  · intro i hi
    rw [hb, if_pos (by omega), if_pos hi]
  · intro i hi hn
    rw [hb, if_pos hn, if_neg (by omega)]
theorem atS_end {n : Nat} {s : ByteArray} (h : AtS n 2 s) : s = str (newL n) := by
  obtain ⟨l, rfl, hm, hu, hf⟩ := h
  have h8 := hm.ge
  have h64 := hm.le
  congr 2
  apply bt_ext (by rw [hm.len, newL_len])
  intro i
  rw [bt_newL n (by omega)]
  by_cases h : i < n
  · rw [if_pos h]
    by_cases h2 : i < 2
    · rw [if_pos h2]; exact hu i h2
    · rw [if_neg h2]; exact hf i (by omega) h
  · rw [if_neg h]; exact hm.past i (by omega)
theorem take_at {n k : Nat} {s : ByteArray} (h : AtS n k s) (h2 : 2 ≤ k) (hk : k < n) : ∃ s', AtS n (k + 1) s' ∧ ∀ w, Calls Tryd.prog 12 #[.agg #[.int .i64 2, .int .i64 0, .int .i64 0, .string s]] w fun e w' =>
      e = .returned (.tuple #[.agg #[.int .i64 2, .int .i64 0, .int .i64 0, .string s'], .int .i64 k, .int .i64 0]) ∧ Below w.heap.size w w' := by
  obtain ⟨l, rfl, hm, hu, hf⟩ := h
  have hl := hm.len
  have hi : takeI 2 l = k := by
    rcases takeI_map hm with ⟨_, h1⟩ | ⟨i, h1, h3, h4, h5, h6⟩
    · have := h1 k hk
      rw [hf k (Nat.le_refl _) hk] at this
      simp at this
    · rw [h1]
      rcases Nat.lt_trichotomy i k with h7 | h7 | h7
      · rw [hu i h7] at h5; simp at h5
      · rw [h7]
      · have := h6 k h7
        rw [hf k (Nat.le_refl _) hk] at this
        simp at this
  refine ⟨str (l.set k 1), ⟨_, rfl, hm.set k 1 h2 hk (.inl rfl), ?_, ?_⟩, fun w => take_ok 2 0 0 l w (by omega) k hi (by rw [pagesF_map hm]; exact hk)⟩
  · intro i h
    rw [bt_set l k 1 (by have := hm.le; omega)]
    split
    · rfl
    · exact hu i (by omega)
  · intro i h hin
    rw [bt_set l k 1 (by have := hm.le; omega), if_neg (by omega)]
    exact hf i (by omega) hin
theorem take_end {n : Nat} {s : ByteArray} (h : AtS n n s) (w : World) : Calls Tryd.prog 12 #[.agg #[.int .i64 2, .int .i64 0, .int .i64 0, .string s]] w fun e w' =>
      e = .returned (.tuple #[.agg #[.int .i64 0, .int .i64 0, .int .i64 0, .string ⟨#[]⟩], .int .i64 0, .int .i64 6]) ∧ Below w.heap.size w w' := by
  obtain ⟨l, rfl, hm, hu, hf⟩ := h
  have hl := hm.len
  have h8 := hm.ge
  refine take_disk 2 0 0 l w (by omega) (by rw [pagesF_map hm]; omega) ?_
  rcases takeI_map hm with ⟨h1, _⟩ | ⟨i, h1, h3, h4, h5, h6⟩
  · rw [h1]; decide
  · rw [hu i h4] at h5; simp at h5
theorem give_at {n k : Nat} {s : ByteArray} (h : AtS n (k + 1) s) (h2 : 2 ≤ k) (hk : k < n) : ∃ s', AtS n k s' ∧ ∀ w, Calls Tryd.prog 14 #[.agg #[.int .i64 2, .int .i64 0, .int .i64 0, .string s], .int .i64 k] w fun e w' =>
      e = .returned (.tuple #[.agg #[.int .i64 2, .int .i64 0, .int .i64 0, .string s'], .int .i64 0]) ∧ Below w.heap.size w w' := by
  obtain ⟨l, rfl, hm, hu, hf⟩ := h
  have hl := hm.len
  have hg : usedF 2 l k = true := (usedF_map hm k).2 ⟨by omega, by omega, by rw [Int.toNat_natCast]; exact hu k (by omega)⟩
  refine ⟨str (l.set k 2), ⟨_, rfl, hm.set k 2 h2 hk (.inr rfl), ?_, ?_⟩, fun w => give_ok 2 0 0 k l w (by omega) h2 hg⟩
  · intro i h
    rw [bt_set l k 2 (by have := hm.le; omega), if_neg (by omega)]
    exact hu i (by omega)
  · intro i h hin
    rw [bt_set l k 2 (by have := hm.le; omega)]
    split
    · rfl
    · exact hf i (by omega) hin

set_option maxRecDepth 100000 in
set_option maxHeartbeats 4000000 in
theorem all_any (n : Int) (w : World) : Calls Tryd.prog 4 #[.int .i64 n] w fun e w' => e = .returned (.bool true) ∧ Below w.heap.size w w' := by
  have ha := fun w => alive_any w
  by_cases h8 : n < 8
  · have d8 : decide (n < 8) = true := by simpa using h8
    go_enter Tryd.func4, Tryd.ntmps4
    go_wp2_with fail
    refine (ha _).mono ?_
    rintro e w1 ⟨rfl, hb1⟩
    go_wp2
    go_ret
    exact ⟨rfl, hb1⟩
  have d8 : decide (n < 8) = false := by simpa using h8
  by_cases h64 : 64 < n
  · have d64 : decide (64 < n) = true := by simpa using h64
    go_enter Tryd.func4, Tryd.ntmps4
    go_wp2_with fail
    refine (ha _).mono ?_
    rintro e w1 ⟨rfl, hb1⟩
    go_wp2
    go_ret
    exact ⟨rfl, hb1⟩
  have d64 : decide (64 < n) = false := by simpa using h64
  obtain ⟨m, rfl⟩ : ∃ m : Nat, n = m := ⟨n.toNat, by omega⟩
  have hm8 : 8 ≤ m := by omega
  have hm64 : m ≤ 64 := by omega
  have hnew := fun w => new_ok m w hm8 hm64
  have hs0 := Lib.hid (atS_new m hm8 hm64)
  have hend : ∀ s, Hid (AtS m 2 s) → s = str (newL m) := fun s h => atS_end h.out
  have Hend := Lib.hid hend
  clear h8 h64 hend
  obtain ⟨S0, hS0⟩ : ∃ S0, S0 = str (newL m) := ⟨_, rfl⟩
  rw [← hS0] at hnew hs0 Hend
  clear hS0
  go_enter Tryd.func4, Tryd.ntmps4
  go_wp2_with fail
  refine (ha _).mono ?_
  rintro e w1 ⟨rfl, hb1⟩
  go_wp2_with fail
  refine (hnew _).mono ?_
  rintro e w2 ⟨rfl, hb2⟩
  have hbw2 := below_tr hb1 hb2
  clear hb1 hb2
  go_wp2_with fail
  go_loopw [6] (fun i wr => ∃ (k : Nat) (s : ByteArray), i = .int .i64 k ∧ 2 ≤ k ∧ k ≤ m ∧ Hid (AtS m k s) ∧ Below w.heap.size w wr ∧ w2.heap.size + 1 < wr.heap.size ∧ wr.heap[w2.heap.size]? = some (.cells #[.int .i64 2, .int .i64 0, .int .i64 0, .string s] 23 (0, 0)) ∧ wr.heap[w2.heap.size + 1]? = some (.cells #[.int .i64 2, .int .i64 0, .int .i64 0, .string S0] 23 (0, 0))) (fun i _ => m - (intOf i).toNat)
  case atStart => exact ⟨2, S0, rfl, by omega, by omega, hs0, below_al (below_al hbw2 _) _, by simp, hal (heap_alloc_new w2 _), by have := heap_alloc_new (w2.alloc (.cells #[.int .i64 2, .int .i64 0, .int .i64 0, .string S0] 23)) (.cells #[.int .i64 2, .int .i64 0, .int .i64 0, .string S0] 23); simpa using this⟩
  case round =>
    obtain ⟨k, s, rfl, hk2, hkm, hat, hbel, hsz, hp, hf⟩ := hrel
    have hcp := blk_cell hp
    have hcf := blk_cell hf
    by_cases hlt : k < m
    · obtain ⟨s', hat', htk⟩ := take_at hat.out hk2 hlt
      have Hat' := Lib.hid hat'
      clear hat' hat
      go_wp2_with fail
      refine (htk _).mono ?_
      rintro e w3 ⟨rfl, hb3⟩
      have hp3 := blk_keep hp hb3
      have hf3 := blk_keep hf hb3
      have hbw3 := below_tr hbel hb3
      clear hcp hcf hp hf hbel hb3 htk
      have hcp3 := blk_cell hp3
      have hfp3 := blk_free hp3
      have hzp3 := lt_of_block hp3
      have hzf3 := lt_of_block hf3
      go_wp2
      go_roundw
      case rel => exact ⟨k + 1, s', by go_num, by omega, by omega, Hat', below_al (below_set4 hbw3 (Nat.le_trans hbw2.size (Nat.le_refl _)) _ _ _ _) _, by simp; omega, hal (set4_same hp3 _ _ _ _), hal (hs4 hf3 (by omega))⟩
      case measure => simp [intOf]; omega
    · obtain rfl : k = m := by omega
      have hte := fun w => take_end hat.out w
      go_wp2_with fail
      refine (hte _).mono ?_
      rintro e w3 ⟨rfl, hb3⟩
      have hp3 := blk_keep hp hb3
      have hf3 := blk_keep hf hb3
      have hbw3 := below_tr hbel hb3
      clear hcp hcf hp hf hbel hb3 hte
      have hcp3 := blk_cell hp3
      have hfp3 := blk_free hp3
      have hzp3 := lt_of_block hp3
      have hzf3 := lt_of_block hf3
      go_wp2_with fail
      go_loopw [13] (fun i wr => ∃ (j : Nat) (s : ByteArray), i = .int .i64 j ∧ 1 ≤ j ∧ j < k ∧ Hid (AtS k (j + 1) s) ∧ Below w.heap.size w wr ∧ w2.heap.size + 1 < wr.heap.size ∧ wr.heap[w2.heap.size]? = some (.cells #[.int .i64 2, .int .i64 0, .int .i64 0, .string s] 23 (0, 0)) ∧ wr.heap[w2.heap.size + 1]? = some (.cells #[.int .i64 2, .int .i64 0, .int .i64 0, .string S0] 23 (0, 0))) (fun i _ => (intOf i).toNat)
      case atStart => exact ⟨k - 1, s, by have : ((k - 1 : Nat) : Int) = (k : Int) - 1 := by omega
                                          rw [this], by omega, by omega, by rw [show k - 1 + 1 = k by omega]; exact hat, below_al hbw3 _, by simp; omega, hal hp3, hal hf3⟩
      case round =>
        obtain ⟨j, s4, rfl, hj1, hjk, hat4, hbel4, hsz4, hp4, hf4⟩ := hrel
        have hcp4 := blk_cell hp4
        have hcf4 := blk_cell hf4
        clear hcp3 hfp3 hzp3 hzf3 hp3 hf3
        by_cases hlt : 2 ≤ j
        · have dj : decide ((2 : Int) ≤ (j : Int)) = true := by simp; omega
          obtain ⟨s', hat', hgv⟩ := give_at hat4.out hlt hjk
          have Hat' := Lib.hid hat'
          clear hat'
          go_wp2_with fail
          refine (hgv _).mono ?_
          rintro e w5 ⟨rfl, hb5⟩
          have hp5 := blk_keep hp4 hb5
          have hf5 := blk_keep hf4 hb5
          have hbw5 := below_tr hbel4 hb5
          clear hcp4 hcf4 hp4 hf4 hbel4 hb5 hgv
          have hcp5 := blk_cell hp5
          have hfp5 := blk_free hp5
          have hzp5 := lt_of_block hp5
          have hzf5 := lt_of_block hf5
          go_wp2
          go_roundw
          case rel => exact ⟨j - 1, s', by have : ((j - 1 : Nat) : Int) = (j : Int) - 1 := by omega
                                           rw [this], by omega, by omega, by rw [show j - 1 + 1 = j by omega]; exact Hat', below_al (below_set4 hbw5 hbw2.size _ _ _ _) _, by simp; omega, hal (set4_same hp5 _ _ _ _), hal (hs4 hf5 (by omega))⟩
          case measure => simp [intOf]; omega
        · obtain rfl : j = 1 := by omega
          have hs := Hend.out s4 hat4
          subst hs
          go_wp2
          go_ret
          exact ⟨rfl, hbel4⟩
end Go.Proofs.YtgafmbdledpblaaDoor.Sp
