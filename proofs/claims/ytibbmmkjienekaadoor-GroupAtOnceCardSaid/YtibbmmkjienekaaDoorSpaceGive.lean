/- The contract of space.Give. -/
import Derived.Test.YtibbmmkjienekaaDoorSpaceUsed
namespace Go.Proofs.YtibbmmkjienekaaDoor.Sp
open Go.RowKit Go.Proofs.YtibbmmkjienekaaDoor.Mem Go.Proofs.YtibbmmkjienekaaDoor.Pg

set_option maxRecDepth 100000 in
theorem give_form (k d x n : Int) (l : List UInt8) (w : World) (hl : l.length ≤ 1000000) (hp : pagesF k l = 0) :
    Calls Tryd.prog 31 #[.agg #[.int .i64 k, .int .i64 d, .int .i64 x, .string (str l)], .int .i64 n] w fun e w' =>
      e = .returned (.tuple #[.agg #[.int .i64 0, .int .i64 0, .int .i64 0, .string ⟨#[]⟩], .int .i64 2]) ∧ Below w.heap.size w w' := by
  have hpg := fun w => pages_any k d x l w hl
  generalize hs : str l = s at hpg ⊢
  clear hs
  have hp' : ((pagesF k l : Int) == 0) = true := by simp [hp]
  go_enter Tryd.func31, Tryd.ntmps31
  go_wp2_with fail
  refine (hpg _).mono ?_
  rintro e w1 ⟨rfl, hb1⟩
  have blk1 := blk2_below hb1
  have hbw1 := below_tr (below_al (below_al (Below.refl _ w) _) _) hb1
  have hc1 := blk_cell blk1.1
  have hf1 := blk_free blk1.1
  have hsz1 := lt_of_block blk1.1
  have hd1 := blk_cell blk1.2
  have hg1 := blk_free blk1.2
  have hsy1 := lt_of_block blk1.2
  clear hb1
  clear hpg
  go_wp2
  refine bodyPost_ret (v := .tuple #[.agg #[.int .i64 0, .int .i64 0, .int .i64 0, .string ⟨#[]⟩], .int .i64 2]) (by simp [results, Tryd.results31, go_sem, hd1]) rfl ⟨rfl, ?_⟩
  exact below_set (below_set (below_set (below_set hbw1 (Nat.le_succ _)) (Nat.le_succ _)) (Nat.le_succ _)) (Nat.le_succ _)

set_option maxRecDepth 100000 in
theorem give_arg (k d x n : Int) (l : List UInt8) (w : World) (hl : l.length ≤ 1000000) (hp : pagesF k l ≠ 0) (hu : n < 2 ∨ usedF k l n = false) :
    Calls Tryd.prog 31 #[.agg #[.int .i64 k, .int .i64 d, .int .i64 x, .string (str l)], .int .i64 n] w fun e w' =>
      e = .returned (.tuple #[.agg #[.int .i64 0, .int .i64 0, .int .i64 0, .string ⟨#[]⟩], .int .i64 1]) ∧ Below w.heap.size w w' := by
  have hpg := fun w => pages_any k d x l w hl
  have hug := fun w => used_any k d x n l w hl
  generalize hs : str l = s at hpg hug ⊢
  clear hs
  have hp' : ((pagesF k l : Int) == 0) = false := by simp; exact hp
  by_cases h2 : n < 2
  · have d2 : decide (n < 2) = true := by simpa using h2
    clear hu hug
    go_enter Tryd.func31, Tryd.ntmps31
    go_wp2_with fail
    refine (hpg _).mono ?_
    rintro e w1 ⟨rfl, hb1⟩
    have blk1 := blk2_below hb1
    have hbw1 := below_tr (below_al (below_al (Below.refl _ w) _) _) hb1
    have hc1 := blk_cell blk1.1
    have hf1 := blk_free blk1.1
    have hsz1 := lt_of_block blk1.1
    have hd1 := blk_cell blk1.2
    have hg1 := blk_free blk1.2
    have hsy1 := lt_of_block blk1.2
    clear hb1
    clear hpg
    go_wp2
    refine bodyPost_ret (v := .tuple #[.agg #[.int .i64 0, .int .i64 0, .int .i64 0, .string ⟨#[]⟩], .int .i64 1]) (by simp [results, Tryd.results31, go_sem, hd1]) rfl ⟨rfl, ?_⟩
    exact below_set (below_set (below_set (below_set hbw1 (Nat.le_succ _)) (Nat.le_succ _)) (Nat.le_succ _)) (Nat.le_succ _)
  · have d2 : decide (n < 2) = false := by simpa using h2
    have hu' : usedF k l n = false := hu.resolve_left h2
    clear hu
    rw [hu'] at hug
    go_enter Tryd.func31, Tryd.ntmps31
    go_wp2_with fail
    refine (hpg _).mono ?_
    rintro e w1 ⟨rfl, hb1⟩
    have blk1 := blk2_below hb1
    have hbw1 := below_tr (below_al (below_al (Below.refl _ w) _) _) hb1
    have hc1 := blk_cell blk1.1
    have hf1 := blk_free blk1.1
    have hsz1 := lt_of_block blk1.1
    have hd1 := blk_cell blk1.2
    have hg1 := blk_free blk1.2
    have hsy1 := lt_of_block blk1.2
    clear hb1
    clear hpg
    go_wp2_with fail
    refine (hug _).mono ?_
    rintro e w2 ⟨rfl, hb2⟩
    have blk2 : w2.heap[w.heap.size]? = _ ∧ w2.heap[w.heap.size + 1]? = _ := ⟨blk_keep blk1.1 hb2, blk_keep blk1.2 hb2⟩
    have hbw2 := below_tr hbw1 hb2
    clear hc1 hf1 hsz1 hd1 hg1 hsy1 hbw1 blk1
    have hc2 := blk_cell blk2.1
    have hf2 := blk_free blk2.1
    have hsz2 := lt_of_block blk2.1
    have hd2 := blk_cell blk2.2
    have hg2 := blk_free blk2.2
    have hsy2 := lt_of_block blk2.2
    clear hb2
    clear hug
    go_wp2
    refine bodyPost_ret (v := .tuple #[.agg #[.int .i64 0, .int .i64 0, .int .i64 0, .string ⟨#[]⟩], .int .i64 1]) (by simp [results, Tryd.results31, go_sem, hd2]) rfl ⟨rfl, ?_⟩
    exact below_set (below_set (below_set (below_set hbw2 (Nat.le_succ _)) (Nat.le_succ _)) (Nat.le_succ _)) (Nat.le_succ _)

set_option maxRecDepth 100000 in
theorem give_ok (k d x : Int) (n : Nat) (l : List UInt8) (w : World) (hl : l.length ≤ 1000) (h2 : 2 ≤ n) (hu : usedF k l n = true) :
    Calls Tryd.prog 31 #[.agg #[.int .i64 k, .int .i64 d, .int .i64 x, .string (str l)], .int .i64 n] w fun e w' =>
      e = .returned (.tuple #[.agg #[.int .i64 k, .int .i64 d, .int .i64 x, .string (str (l.set n 2))], .int .i64 0]) ∧ Below w.heap.size w w' := by
  have hpg := fun w => pages_any k d x l w (by omega)
  have hug := fun w => used_any k d x n l w (by omega)
  have hp : pagesF k l ≠ 0 := by have := (usedF_iff k l n).1 hu; omega
  have hlen := (pagesF_len k l hp).2.1
  have hle := pagesF_le k l
  have hn : n < l.length := by have := (usedF_iff k l n).1 hu; omega
  have hst : ∀ w, Calls Tryd.prog 35 #[.agg #[.int .i64 k, .int .i64 d, .int .i64 x, .string (str l)], .int .i64 n, .int .u8 2] w fun e w' => e = .returned (.agg #[.int .i64 k, .int .i64 d, .int .i64 x, .string (str (l.set n 2))]) ∧ Below w.heap.size w w' := fun w => set_any k d x l n 2 w hn hl
  rw [hu] at hug
  generalize hs : str l = s at hpg hug hst ⊢
  generalize hs2 : str (l.set n 2) = s2 at hst ⊢
  clear hs hs2 hlen hle hn
  have hp' : ((pagesF k l : Int) == 0) = false := by simp; exact hp
  have d2 : decide ((n : Int) < 2) = false := by simp; omega
  go_enter Tryd.func31, Tryd.ntmps31
  go_wp2_with fail
  refine (hpg _).mono ?_
  rintro e w1 ⟨rfl, hb1⟩
  have blk1 := blk2_below hb1
  have hbw1 := below_tr (below_al (below_al (Below.refl _ w) _) _) hb1
  have hc1 := blk_cell blk1.1
  have hf1 := blk_free blk1.1
  have hsz1 := lt_of_block blk1.1
  have hd1 := blk_cell blk1.2
  have hg1 := blk_free blk1.2
  have hsy1 := lt_of_block blk1.2
  clear hb1
  clear hpg
  go_wp2_with fail
  refine (hug _).mono ?_
  rintro e w2 ⟨rfl, hb2⟩
  have blk2 : w2.heap[w.heap.size]? = _ ∧ w2.heap[w.heap.size + 1]? = _ := ⟨blk_keep blk1.1 hb2, blk_keep blk1.2 hb2⟩
  have hbw2 := below_tr hbw1 hb2
  clear hc1 hf1 hsz1 hd1 hg1 hsy1 hbw1 blk1
  have hc2 := blk_cell blk2.1
  have hf2 := blk_free blk2.1
  have hsz2 := lt_of_block blk2.1
  have hd2 := blk_cell blk2.2
  have hg2 := blk_free blk2.2
  have hsy2 := lt_of_block blk2.2
  clear hb2
  clear hug
  go_wp2_with fail
  refine (hst _).mono ?_
  rintro e w3 ⟨rfl, hb3⟩
  have blk3 : w3.heap[w.heap.size]? = _ ∧ w3.heap[w.heap.size + 1]? = _ := ⟨blk_keep blk2.1 hb3, blk_keep blk2.2 hb3⟩
  have hbw3 := below_tr hbw2 hb3
  clear hc2 hf2 hsz2 hd2 hg2 hsy2 hbw2 blk2
  have hc3 := blk_cell blk3.1
  have hf3 := blk_free blk3.1
  have hsz3 := lt_of_block blk3.1
  have hd3 := blk_cell blk3.2
  have hg3 := blk_free blk3.2
  have hsy3 := lt_of_block blk3.2
  clear hb3
  clear hst
  go_wp2
  refine bodyPost_ret (v := .tuple #[.agg #[.int .i64 k, .int .i64 d, .int .i64 x, .string s2], .int .i64 0]) (by simp [results, Tryd.results31, go_sem, hd3]) rfl ⟨rfl, ?_⟩
  exact below_set (below_set (below_set (below_set hbw3 (Nat.le_succ _)) (Nat.le_succ _)) (Nat.le_succ _)) (Nat.le_succ _)
end Go.Proofs.YtibbmmkjienekaaDoor.Sp
