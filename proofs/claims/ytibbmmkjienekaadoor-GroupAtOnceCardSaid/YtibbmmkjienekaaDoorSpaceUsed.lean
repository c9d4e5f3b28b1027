/- The contracts of space.Used, space.Give. -/
import Derived.Test.YtibbmmkjienekaaDoorSpacePages
namespace Go.Proofs.YtibbmmkjienekaaDoor.Sp
open Go.RowKit Go.Proofs.YtibbmmkjienekaaDoor.Mem Go.Proofs.YtibbmmkjienekaaDoor.Pg

def usedF (k : Int) (l : List UInt8) (n : Int) : Bool := decide (0 ≤ n) && (decide (n < (pagesF k l : Int)) && decide (bt l n.toNat = 1))
theorem usedF_iff (k : Int) (l : List UInt8) (n : Int) : usedF k l n = true ↔ 0 ≤ n ∧ n < (pagesF k l : Int) ∧ bt l n.toNat = 1 := by simp [usedF]

set_option maxRecDepth 100000 in
theorem used_any (k d x n : Int) (l : List UInt8) (w : World) (hl : l.length ≤ 1000000) :
    Calls Tryd.prog 44 #[.agg #[.int .i64 k, .int .i64 d, .int .i64 x, .string (str l)], .int .i64 n] w fun e w' =>
      e = .returned (.bool (usedF k l n)) ∧ Below w.heap.size w w' := by
  have hpg := fun w => pages_any k d x l w hl
  have hpl : pagesF k l ≤ l.length := by
    by_cases h : pagesF k l = 0
    · omega
    · have := pagesF_len k l h; have := pagesF_le k l; omega
  have hbt := str_bt l
  have hss := str_size l
  generalize hs : str l = s at hpg hbt hss ⊢
  clear hs
  by_cases h0 : 0 ≤ n
  · have d0 : decide (0 ≤ n) = true := by simpa using h0
    by_cases h1 : n < (pagesF k l : Int)
    · have d1 : decide (n < (pagesF k l : Int)) = true := by simpa using h1
      obtain ⟨m, rfl⟩ : ∃ m : Nat, n = m := ⟨n.toNat, by omega⟩
      have hm : m < s.size := by omega
      have hb := hbt m hm
      have hu : usedF k l m = decide (bt l m = 1) := by simp only [usedF, d0, d1, Bool.true_and, Int.toNat_natCast]
      have Hu := Lib.hid hu
      clear hu hbt
      have hm' : (m : Int) < (s.size : Int) := by omega
      go_enter Tryd.func44, Tryd.ntmps44
      go_wp2_with fail
      refine (hpg _).mono ?_
      rintro e w1 ⟨rfl, hb1⟩
      have hblk := blk_below hb1
      have hc := blk_cell hblk
      have hf := blk_free hblk
      have hsz := lt_of_block hblk
      have hbw := below_tr (below_al (Below.refl _ w) _) hb1
      clear hb1 hpg
      by_cases hone : bt l m = 1
      · have e1 : (bt l m == 1) = true := by simpa using hone
        have Ho := Lib.hid hone
        clear hone
        go_wp2
        go_ret
        exact ⟨by rw [Hu.out]; simp [Ho.out], hbw⟩
      · have e1 : (bt l m == 1) = false := by simpa using hone
        have Ho := Lib.hid hone
        clear hone
        go_wp2
        go_ret
        exact ⟨by rw [Hu.out]; simp [Ho.out], hbw⟩
    · have d1 : decide (n < (pagesF k l : Int)) = false := by simpa using h1
      have hu : usedF k l n = false := by simp only [usedF, d0, d1, Bool.true_and, Bool.false_and]
      go_enter Tryd.func44, Tryd.ntmps44
      go_wp2_with fail
      refine (hpg _).mono ?_
      rintro e w1 ⟨rfl, hb1⟩
      have hblk := blk_below hb1
      have hc := blk_cell hblk
      have hf := blk_free hblk
      have hsz := lt_of_block hblk
      have hbw := below_tr (below_al (Below.refl _ w) _) hb1
      clear hb1 hpg
      go_wp2
      go_ret
      exact ⟨by rw [hu]; rfl, hbw⟩
  · have d0 : decide (0 ≤ n) = false := by simpa using h0
    have hu : usedF k l n = false := by simp only [usedF, d0, Bool.false_and]
    go_enter Tryd.func44, Tryd.ntmps44
    go_wp2
    go_ret
    exact ⟨by first | rfl | (rw [hu]; rfl), below_al (Below.refl _ w) _⟩
end Go.Proofs.YtibbmmkjienekaaDoor.Sp
