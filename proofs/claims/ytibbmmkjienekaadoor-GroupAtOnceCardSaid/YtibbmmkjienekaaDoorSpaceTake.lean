/- The contracts of space.Take, space.Free. -/
import Derived.Test.YtibbmmkjienekaaDoorSpaceUsed
import Derived.Deep.RegionHeld
namespace Go.Proofs.YtibbmmkjienekaaDoor.Sp
open Go.RowKit Go.Proofs.YtibbmmkjienekaaDoor.Mem Go.Proofs.YtibbmmkjienekaaDoor.Pg

theorem cut_take (l : List UInt8) (n : Nat) : (str l).extract 0 n = str (l.take n) := by
  apply ByteArray.ext
  apply Array.toList_inj.1
  simp [ByteArray.data_extract]
/-- The least free page. -/
def takeI (k : Int) (l : List UInt8) : Int := Lib.indexByte (l.take (pagesF k l)) 2
theorem pagesF_le_len (k : Int) (l : List UInt8) : pagesF k l ≤ l.length := by
  by_cases h : pagesF k l = 0
  · omega
  · have := pagesF_len k l h
    have := pagesF_le k l
    omega

set_option maxRecDepth 100000 in
theorem take_form (k d x : Int) (l : List UInt8) (w : World) (hl : l.length ≤ 1000000) (hp : pagesF k l = 0) :
    Calls Tryd.prog 29 #[.agg #[.int .i64 k, .int .i64 d, .int .i64 x, .string (str l)]] w fun e w' =>
      e = .returned (.tuple #[.agg #[.int .i64 0, .int .i64 0, .int .i64 0, .string ⟨#[]⟩], .int .i64 0, .int .i64 2]) ∧ Below w.heap.size w w' := by
  have hpg := fun w => pages_any k d x l w hl
  generalize hs : str l = s at hpg ⊢
  clear hs
  have hp' : ((pagesF k l : Int) == 0) = true := by simp [hp]
  go_enter Tryd.func29, Tryd.ntmps29
  go_wp2_with fail
  refine (hpg _).mono ?_
  rintro e w1 ⟨rfl, hb1⟩
  have blk1 := blk2_below hb1
  have hbw1 := below_tr (below_al (below_al (Below.refl _ w) _) _) hb1
  have hc1 := blk_cell blk1.1
  have hf1 := blk_free blk1.1
  have hsz1 := lt_of_block blk1.1
  have hd1 := blk_cell blk1.2
  have hg1 := blk_free blk1.2
  have hsy1 := lt_of_block blk1.2
  clear hb1
  clear hpg
  go_wp2
  refine bodyPost_ret (v := .tuple #[.agg #[.int .i64 0, .int .i64 0, .int .i64 0, .string ⟨#[]⟩], .int .i64 0, .int .i64 2]) (by simp [results, Tryd.results29, go_sem, hd1]) rfl ⟨rfl, ?_⟩
  exact below_set (below_set (below_set (below_set hbw1 (Nat.le_succ _)) (Nat.le_succ _)) (Nat.le_succ _)) (Nat.le_succ _)

set_option maxRecDepth 100000 in
theorem take_disk (k d x : Int) (l : List UInt8) (w : World) (hl : l.length ≤ 1000000) (hp : pagesF k l ≠ 0) (hi : takeI k l < 0) :
    Calls Tryd.prog 29 #[.agg #[.int .i64 k, .int .i64 d, .int .i64 x, .string (str l)]] w fun e w' =>
      e = .returned (.tuple #[.agg #[.int .i64 0, .int .i64 0, .int .i64 0, .string ⟨#[]⟩], .int .i64 0, .int .i64 6]) ∧ Below w.heap.size w w' := by
  have hpg := fun w => pages_any k d x l w hl
  have hix : ∀ w, Calls Tryd.prog 42 #[.string ((str l).extract 0 (pagesF k l)), .int .u8 2] w fun e w' => e = .returned (.int .i64 (takeI k l)) ∧ w' = w := fun w => by
    rw [cut_take]; exact Tryd.strings_IndexByte (str (l.take (pagesF k l))) 2 w
  have hle : pagesF k l ≤ (str l).size := by rw [str_size]; exact pagesF_le_len k l
  have h64 := pagesF_le k l
  generalize hs : str l = s at hpg hix hle ⊢
  clear hs
  have hp' : ((pagesF k l : Int) == 0) = false := by simp; exact hp
  have di : decide (takeI k l < 0) = true := by simpa using hi
  have hpos : (0 : Int) ≤ (pagesF k l : Int) := by omega
  have hle' : (pagesF k l : Int) ≤ (s.size : Int) := by omega
  go_enter Tryd.func29, Tryd.ntmps29
  go_wp2_with fail
  refine (hpg _).mono ?_
  rintro e w1 ⟨rfl, hb1⟩
  have blk1 := blk2_below hb1
  have hbw1 := below_tr (below_al (below_al (Below.refl _ w) _) _) hb1
  have hc1 := blk_cell blk1.1
  have hf1 := blk_free blk1.1
  have hsz1 := lt_of_block blk1.1
  have hd1 := blk_cell blk1.2
  have hg1 := blk_free blk1.2
  have hsy1 := lt_of_block blk1.2
  clear hb1
  clear hpg
  go_wp2_with fail
  refine (hix _).mono ?_
  rintro e w2 ⟨rfl, rfl⟩
  go_wp2
  refine bodyPost_ret (v := .tuple #[.agg #[.int .i64 0, .int .i64 0, .int .i64 0, .string ⟨#[]⟩], .int .i64 0, .int .i64 6]) (by simp [results, Tryd.results29, go_sem, hd1]) rfl ⟨rfl, ?_⟩
  exact below_set (below_set (below_set (below_set hbw1 (Nat.le_succ _)) (Nat.le_succ _)) (Nat.le_succ _)) (Nat.le_succ _)

set_option maxRecDepth 100000 in
theorem take_ok (k d x : Int) (l : List UInt8) (w : World) (hl : l.length ≤ 1000) (i : Nat) (hi : takeI k l = i) (hp : i < pagesF k l) :
    Calls Tryd.prog 29 #[.agg #[.int .i64 k, .int .i64 d, .int .i64 x, .string (str l)]] w fun e w' =>
      e = .returned (.tuple #[.agg #[.int .i64 k, .int .i64 d, .int .i64 x, .string (str (l.set i 1))], .int .i64 i, .int .i64 0]) ∧ Below w.heap.size w w' := by
  have hpg := fun w => pages_any k d x l w (by omega)
  have hix : ∀ w, Calls Tryd.prog 42 #[.string ((str l).extract 0 (pagesF k l)), .int .u8 2] w fun e w' => e = .returned (.int .i64 (takeI k l)) ∧ w' = w := fun w => by
    rw [cut_take]; exact Tryd.strings_IndexByte (str (l.take (pagesF k l))) 2 w
  have hle : pagesF k l ≤ (str l).size := by rw [str_size]; exact pagesF_le_len k l
  have h64 := pagesF_le k l
  have hst : ∀ w, Calls Tryd.prog 35 #[.agg #[.int .i64 k, .int .i64 d, .int .i64 x, .string (str l)], .int .i64 i, .int .u8 1] w fun e w' => e = .returned (.agg #[.int .i64 k, .int .i64 d, .int .i64 x, .string (str (l.set i 1))]) ∧ Below w.heap.size w w' := fun w => set_any k d x l i 1 w (by rw [str_size] at hle; omega) hl
  rw [hi] at hix
  generalize hs : str l = s at hpg hix hle hst ⊢
  generalize hs2 : str (l.set i 1) = s2 at hst ⊢
  clear hs hs2
  have hp' : ((pagesF k l : Int) == 0) = false := by simp; omega
  have di : decide ((i : Int) < 0) = false := by simp
  have hpos : (0 : Int) ≤ (pagesF k l : Int) := by omega
  have hle' : (pagesF k l : Int) ≤ (s.size : Int) := by omega
  clear hi
  go_enter Tryd.func29, Tryd.ntmps29
  go_wp2_with fail
  refine (hpg _).mono ?_
  rintro e w1 ⟨rfl, hb1⟩
  have blk1 := blk2_below hb1
  have hbw1 := below_tr (below_al (below_al (Below.refl _ w) _) _) hb1
  have hc1 := blk_cell blk1.1
  have hf1 := blk_free blk1.1
  have hsz1 := lt_of_block blk1.1
  have hd1 := blk_cell blk1.2
  have hg1 := blk_free blk1.2
  have hsy1 := lt_of_block blk1.2
  clear hb1
  clear hpg
  go_wp2_with fail
  refine (hix _).mono ?_
  rintro e w2 ⟨rfl, rfl⟩
  go_wp2_with fail
  refine (hst _).mono ?_
  rintro e w2 ⟨rfl, hb2⟩
  have blk2 : w2.heap[w.heap.size]? = _ ∧ w2.heap[w.heap.size + 1]? = _ := ⟨blk_keep blk1.1 hb2, blk_keep blk1.2 hb2⟩
  have hbw2 := below_tr hbw1 hb2
  clear hc1 hf1 hsz1 hd1 hg1 hsy1 hbw1 blk1
  have hc2 := blk_cell blk2.1
  have hf2 := blk_free blk2.1
  have hsz2 := lt_of_block blk2.1
  have hd2 := blk_cell blk2.2
  have hg2 := blk_free blk2.2
  have hsy2 := lt_of_block blk2.2
  clear hb2
  go_wp2
  refine bodyPost_ret (v := .tuple #[.agg #[.int .i64 k, .int .i64 d, .int .i64 x, .string s2], .int .i64 i, .int .i64 0]) (by simp [results, Tryd.results29, go_sem, hd2]) rfl ⟨rfl, ?_⟩
  exact below_set (below_set (below_set (below_set hbw2 (Nat.le_succ _)) (Nat.le_succ _)) (Nat.le_succ _)) (Nat.le_succ _)

set_option maxRecDepth 100000 in
set_option maxHeartbeats 4000000 in
theorem free_any (k d x : Int) (l : List UInt8) (w : World) (hl : l.length ≤ 1000000) :
    Calls Tryd.prog 30 #[.agg #[.int .i64 k, .int .i64 d, .int .i64 x, .string (str l)]] w fun e w' =>
      e = .returned (.int .i64 ((l.take (pagesF k l)).count 2 : Nat)) ∧ Below w.heap.size w w' := by
  have hpg := fun w => pages_any k d x l w hl
  have hct : ∀ w, Calls Tryd.prog 43 #[.string ((str l).extract 0 (pagesF k l)), .string ⟨#[2]⟩] w fun e w' => e = .returned (.int .i64 ((l.take (pagesF k l)).count 2 : Nat)) ∧ w' = w := fun w => by
    rw [cut_take]; exact Tryd.strings_Count_one (str (l.take (pagesF k l))) 2 w
  have hle : pagesF k l ≤ (str l).size := by rw [str_size]; exact pagesF_le_len k l
  have h64 := pagesF_le k l
  have hcv := fun W g c => conv_one W g c 2
  generalize hs : str l = s at hpg hct hle ⊢
  clear hs
  have hpos : (0 : Int) ≤ (pagesF k l : Int) := by omega
  have hle' : (pagesF k l : Int) ≤ (s.size : Int) := by omega
  have hpg' : ∀ W : World, Below w.heap.size w W → w.heap.size < W.heap.size → Calls Tryd.prog 41 #[.agg #[.int .i64 k, .int .i64 d, .int .i64 x, .string s]] W fun e w' => e = .returned (.int .i64 (pagesF k l)) ∧ Below w.heap.size w w' ∧ w.heap.size < w'.heap.size ∧ W.heap.size ≤ w'.heap.size ∧ (∀ b j, b < W.heap.size → w'.cell? ⟨b, j, none⟩ = W.cell? ⟨b, j, none⟩) := fun W hW hl => (hpg W).mono (fun e w' h => ⟨h.1, below_base hW (by omega) h.2, Nat.lt_of_lt_of_le hl h.2.size, h.2.size, fun b j hlt => h.2.cell (p := ⟨b, j, none⟩) hlt⟩)
  go_enter Tryd.func30, Tryd.ntmps30
  go_wp2_with fail
  have hbw0 : Below w.heap.size w (w.alloc (.cells #[.int .i64 k, .int .i64 d, .int .i64 x, .string s] 23)) := below_al (Below.refl _ w) _
  have hst : w.heap.size < (w.alloc (.cells #[.int .i64 k, .int .i64 d, .int .i64 x, .string s] 23)).heap.size := by simp
  go_region_held (fun w' => Below w.heap.size w w' ∧ w.heap.size < w'.heap.size ∧ w'.cell? ⟨w.heap.size, 0, none⟩ = some (.int .i64 k) ∧ w'.cell? ⟨w.heap.size, 1, none⟩ = some (.int .i64 d) ∧ w'.cell? ⟨w.heap.size, 2, none⟩ = some (.int .i64 x) ∧ w'.cell? ⟨w.heap.size, 3, none⟩ = some (.string s))
    (simp [*, World.cell?_alloc_some, below_al, below_dr, Nat.lt_succ_of_lt])
    (first
      | (go_at_call 41; refine (hpg' _ (by simp [*]) (by simp [*, Nat.lt_succ_of_lt])).mono ?_; rintro e w' ⟨rfl, hb, hl1, hl2, hcc⟩)
      | (go_at_call 43; refine (hct _).mono ?_; rintro e w' ⟨rfl, rfl⟩))
  all_goals
    rename_i hH
    clear hcv hct hpg hpg'
    go_wp2
    go_ret
    exact ⟨rfl, hH.1⟩
end Go.Proofs.YtibbmmkjienekaaDoor.Sp
