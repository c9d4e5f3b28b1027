/- The contract of dir's New; what a page of entries reads as. -/
import Derived.Test.YtlinolgbpnokcaaGreatDoorDirAll
namespace Go.Proofs.YtlinolgbpnokcaaGreatDoor.Dr
open Go.RowKit Go.Proofs.YtlinolgbpnokcaaGreatDoor.Mem Go.Proofs.YtlinolgbpnokcaaGreatDoor.Pg

theorem nums_get (xs : List Int) : ∀ i, i < xs.length → (nums xs).getD (2 * i) 0 = 0 ∧ (nums xs).getD (2 * i + 1) 0 = xs.getD i 0 := by
  induction xs with
  | nil => intro i h; simp at h
  | cons x xs ih =>
    intro i h
    cases i with
    | zero => exact ⟨rfl, rfl⟩
    | succ i =>
      have := ih i (by simpa using h)
      rw [show 2 * (i + 1) = 2 * i + 2 from by omega]
      exact this
theorem ent_body (xs : List Int) (hm : ∀ y ∈ xs, mayP y) (i : Nat) (h : i < xs.length) : ent (bodyOf xs) i = xs.getD i 0 := by
  have hl : (nums xs).length = 2 * xs.length := nums_len xs
  have hg : ∀ j, j < 2 * xs.length → bt (bodyOf xs) j = (UInt8.ofNat ((nums xs).getD j 0).toNat).toNat := fun j hj => by
    unfold bt bodyOf encL
    rw [List.getD_eq_getElem?_getD, List.getElem?_append_left (by rw [List.length_map]; omega), List.getElem?_map, List.getElem?_eq_getElem (by omega), List.getD_eq_getElem?_getD, List.getElem?_eq_getElem (by omega)]
    rfl
  obtain ⟨h1, h2⟩ := nums_get xs i h
  have hy : mayP (xs.getD i 0) := hm _ (List.mem_iff_getElem?.2 ⟨i, by rw [List.getD_eq_getElem?_getD, List.getElem?_eq_getElem h, Option.getD_some]⟩)
  obtain ⟨y1, y2⟩ : 2 ≤ xs.getD i 0 ∧ xs.getD i 0 < 64 := hy
  unfold ent
  rw [hg _ (by omega), hg _ (by omega), h1, h2]
  generalize xs.getD i 0 = y at *
  obtain ⟨n, rfl⟩ := Int.eq_ofNat_of_zero_le (show 0 ≤ y from by omega)
  have : (UInt8.ofNat ((n : Int).toNat)).toNat = n := by
    rw [Int.toNat_natCast, UInt8.toNat_ofNat']
    omega
  rw [this]
  simp
theorem ents_body (xs : List Int) (hm : ∀ y ∈ xs, mayP y) : ents (bodyOf xs) xs.length = xs := by
  refine List.ext_getElem (by simp [ents]) fun i h1 h2 => ?_
  have := ent_body xs hm i h2
  simp only [ents, List.getElem_map, List.getElem_range]
  rw [this, List.getD_eq_getElem?_getD, List.getElem?_eq_getElem h2, Option.getD_some]
theorem body_len (xs : List Int) (h : xs.length ≤ 120) : (bodyOf xs).length = 240 := by
  rw [bodyOf, List.length_append, encL_len, zs, List.length_replicate]
  omega
theorem isDir_body (xs : List Int) (hm : ∀ y ∈ xs, mayP y) (d : Nat) (hd : d ≤ 5) (hn : xs.length = 2 ^ d) : IsDir 1 d (bodyOf xs) xs.length := by
  have h32 : xs.length ≤ 32 := by
    rw [hn]
    exact (pow_small d hd).2.2
  refine ⟨rfl, by omega, by omega, body_len xs (by omega), by rw [hn, Int.toNat_natCast], fun i hi => ?_, ?_⟩
  · rw [ent_body xs hm i hi]
    exact hm _ (List.mem_iff_getElem?.2 ⟨i, by rw [List.getD_eq_getElem?_getD, List.getElem?_eq_getElem hi, Option.getD_some]⟩)
  · intro c hc
    rw [bodyOf, List.drop_append_of_le_length (by rw [encL_len]; omega), List.drop_of_length_le (by rw [encL_len]; omega), List.nil_append] at hc
    exact (List.mem_replicate.1 hc).2

set_option maxRecDepth 100000 in
set_option maxHeartbeats 2000000 in
theorem new_no (n : Int) (w : World) (hn : ¬ mayP n) :
    Calls Tryz.prog 5 #[.int .i64 n] w fun e w' => e = .returned (.tuple #[.agg #[.int .i64 0, .int .i64 0, .int .i64 0, .string ⟨#[]⟩], .bool false]) ∧ Below w.heap.size w w' := by
  have hma := fun w => may_any n w
  rw [show mayB n = false from decide_eq_false hn] at hma
  go_enter Tryz.func5, Tryz.ntmps5
  go_wp2_with fail
  with_reducible refine (hma _).mono ?_
  rintro e w1 ⟨rfl, hw⟩
  subst hw
  go_wp2
  have hres := heap_alloc_new w (.cells #[.int .i64 0, .int .i64 0, .int .i64 0, .string ⟨#[]⟩] 23)
  have hbel := below_al (Below.refl _ w) (.cells #[.int .i64 0, .int .i64 0, .int .i64 0, .string ⟨#[]⟩] 23)
  have k0 := blk_cell hres
  generalize w.alloc (.cells #[.int .i64 0, .int .i64 0, .int .i64 0, .string ⟨#[]⟩] 23) = W at *
  refine bodyPost_ret (v := .tuple #[.agg #[.int .i64 0, .int .i64 0, .int .i64 0, .string ⟨#[]⟩], .bool false]) ?_ rfl ⟨rfl, hbel⟩
  simp [results, Tryz.results5, go_sem, k0]

set_option maxRecDepth 100000 in
set_option maxHeartbeats 2000000 in
theorem new_yes (n : Int) (w : World) (hn : mayP n) :
    Calls Tryz.prog 5 #[.int .i64 n] w fun e w' => e = .returned (.tuple #[.agg #[.int .i64 1, .int .i64 0, .int .i64 0, .string (str (bodyOf [n]))], .bool true]) ∧ Below w.heap.size w w' := by
  have hma := fun w => may_any n w
  rw [show mayB n = true from decide_eq_true hn] at hma
  have hem := fun w => empty_any 1 0 w
  have hpa := fun W g cap (hz : Ints W (some ⟨g, 0, none⟩) 1 [n]) => page_any 1 0 0 0 0 (str (zs 240)) (some ⟨g, 0, none⟩) 1 cap [n] W hz (fun y hy => by simp at hy; subst hy; exact hn) (by omega) (by omega)
  obtain ⟨Y, hY⟩ : ∃ Y, Y = str (bodyOf [n]) := ⟨_, rfl⟩
  obtain ⟨Z, hZ⟩ : ∃ Z, Z = str (zs 240) := ⟨_, rfl⟩
  simp only [← hZ, ← hY] at hem hpa ⊢
  clear hZ hY
  have Hpa := Lib.hid hpa
  clear hpa
  go_enter Tryz.func5, Tryz.ntmps5
  go_wp2_with fail
  with_reducible refine (hma _).mono ?_
  rintro e w1 ⟨rfl, hw⟩
  subst hw
  clear hma
  go_wp2_with fail
  with_reducible refine (hem _).mono ?_
  rintro e w2 ⟨rfl, hb2⟩
  clear hem
  have hint : Ints w2 (some ⟨w.heap.size + 1, 0, none⟩) 1 [n] := by
    refine ⟨rfl, by omega, fun _ => ⟨w.heap.size + 1, 0, rfl, ?_, fun j hj => ?_⟩⟩
    · have := hb2.size
      simp at this
      omega
    · obtain rfl : j = 0 := by omega
      exact blk_cell (blk2_below hb2).2 0
  have hres2 := (blk2_below hb2).1
  have hbel2 : Below w.heap.size w w2 := below_box (below_box hb2)
  clear hb2
  go_wp2_with fail
  with_reducible refine (Hpa.out _ _ _ hint).mono ?_
  rintro e w3 ⟨rfl, hb3⟩
  have hres3 := blk_keep hres2 hb3
  have hbel3 := below_base hbel2 hbel2.size hb3
  have hc3 := blk_cell hres3
  have hf3 := blk_free hres3
  have hz3 := lt_of_block hres3
  clear hb3 hres2 hbel2 hint
  go_wp2
  have hW : (set4 w3 (w.heap.size) (.int .i64 1) (.int .i64 0) (.int .i64 0) (.string Y)).heap[w.heap.size]? = _ := set4_same hres3 (.int .i64 1) (.int .i64 0) (.int .i64 0) (.string Y)
  have hB := below_set4 hbel3 (Nat.le_refl _) (.int .i64 1) (.int .i64 0) (.int .i64 0) (.string Y)
  change bodyPost _ _ _ _ _ (set4 w3 (w.heap.size) (.int .i64 1) (.int .i64 0) (.int .i64 0) (.string Y))
  generalize set4 w3 (w.heap.size) (.int .i64 1) (.int .i64 0) (.int .i64 0) (.string Y) = WF at *
  have j0 := blk_cell hW 0
  have j1 := blk_cell hW 1
  have j2 := blk_cell hW 2
  have j3 := blk_cell hW 3
  clear hW hc3 hf3
  refine bodyPost_ret (v := .tuple #[.agg #[.int .i64 1, .int .i64 0, .int .i64 0, .string Y], .bool true]) ?_ rfl (⟨rfl, hB⟩)
  simp [results, Tryz.results5, go_sem, j0, j1, j2, j3]
end Go.Proofs.YtlinolgbpnokcaaGreatDoor.Dr
