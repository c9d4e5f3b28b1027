/- Lemmas of the claim, in their order:
- The contract of hash.Format.
- The contract of slices.Clone at cells.
- The sort of cell.Fits: its compare function is another number.
- The contract of hash.sorted.
- The contract of undo's 'on': where one goes on behind a record.
-/
import Derived.Test.YtijhamllnnilbaaGreatDoorU29
import Derived.Lib.SliceRun
import Derived.Test.YtijhamllnnilbaaGreatDoorProg
import Derived.Test.YtijhamllnnilbaaGreatDoorU31
import Derived.WalkKit
import Derived.KernelRfl
import Derived.Outline
set_option linter.unusedVariables false
set_option linter.unusedSimpArgs false
namespace Go.Proofs.YtijhamllnnilbaaGreatDoor.Ha
open Go.RowKit Go.Proofs.YtijhamllnnilbaaGreatDoor.Mem Go.Proofs.YtijhamllnnilbaaGreatDoor.Pg Go.Proofs.YtijhamllnnilbaaGreatDoor.Kp Go.Proofs.YtijhamllnnilbaaGreatDoor.Sp Go.Proofs.YtijhamllnnilbaaGreatDoor.Gr
set_option linter.unusedSimpArgs false
set_option linter.unusedVariables false
theorem wp_world {P : Program} {c : Code} {Q : Exit → Act → World → Prop} {f : Act} {a b : World} (h : b = a) (k : Code.wp P c Q f b) : Code.wp P c Q f a := h ▸ k
/-- The map of the pages of an empty table. -/
def fmtL (n : Nat) : List UInt8 := (newL n).set 2 1
theorem take_new (n : Nat) (h8 : 8 ≤ n) (h64 : n ≤ 64) : takeI 2 (newL n) = 2 ∧ pagesF 2 (newL n) = n := by
  have hm := isMap_new n h8 h64
  have hb := bt_newL n (by omega)
  refine ⟨?_, pagesF_map hm⟩
  rcases takeI_map hm with ⟨_, h1⟩ | ⟨i, h1, h2, h3, h4, h5⟩
  · have := h1 2 (by omega)
    rw [hb 2, if_pos (by omega), if_neg (by omega)] at this
    omega
  · have : i = 2 := by
      rcases Nat.lt_or_ge 2 i with h6 | h6
      · have := h5 2 h6
        rw [hb 2, if_pos (by omega), if_neg (by omega)] at this
        omega
      · omega
    rw [h1, this]; rfl
set_option maxRecDepth 100000 in
set_option maxHeartbeats 4000000 in
theorem format_ok (n : Nat) (w : World) (h8 : 8 ≤ n) (h64 : n ≤ 64) :
    Calls Tryz.prog 35 #[.int .i64 n] w fun e w' => ∃ g, e = .returned (.tuple #[.slice (some ⟨g, 0, none⟩) 3 3, .bool true]) ∧ w.heap.size ≤ g ∧
      w'.heap[g]? = some (.cells #[.int .i64 1, .int .i64 0, .int .i64 0, .string (str (Dr.bodyOf [2])), .int .i64 2, .int .i64 0, .int .i64 0, .string (str (fmtL n)), .int .i64 3, .int .i64 0, .int .i64 0, .string (str (zs 240))] 113 (0, 0)) ∧ Below w.heap.size w w' := by
  obtain ⟨ht, hp⟩ := take_new n h8 h64
  have hnew := new_ok n w h8 h64
  have hdir := fun W => Dr.new_yes 2 W (by decide)
  have htk := fun W => take_ok 2 0 0 (newL n) W (by rw [newL_len]; omega) 2 ht (by rw [hp]; omega)
  have hem := fun W => empty_any 3 0 W
  change ∀ W, Calls _ _ #[.agg #[_, _, _, .string (str (newL n))]] _ _ at htk
  rw [show (newL n).set 2 1 = fmtL n from rfl] at htk
  generalize str (fmtL n) = F at *
  generalize str (newL n) = L at *
  generalize str (Dr.bodyOf [2]) = E at *
  generalize str (zs 240) = Z at *
  clear ht hp
  go_enter Tryz.func35, Tryz.ntmps35
  go_wp2_with fail
  with_reducible refine hnew.mono ?_
  rintro e w1 ⟨rfl, hb1⟩
  have z1 := heap_alloc_new w1 (pagO 2 0 0 L)
  have B1 := Lib.hid (below_al hb1 (pagO 2 0 0 L))
  have Z1 := Lib.hid z1
  have hw1 := hb1.size
  clear hb1 z1 hnew
  go_wp2_with fail
  with_reducible refine (hdir _).mono ?_
  rintro e w2 ⟨rfl, hb2⟩
  have z2 := hal (o := pagO 1 0 0 E) (blk_keep Z1.out hb2)
  have y2 := heap_alloc_new w2 (pagO 1 0 0 E)
  have B2 := Lib.hid (below_al (below_base B1.out B1.out.size hb2) (pagO 1 0 0 E))
  have Z2 := Lib.hid z2
  have Y2 := Lib.hid y2
  have cz2 := blk_cell z2
  have lz2 := lt_of_block z2
  have hw2 : w1.heap.size < w2.heap.size := by have := hb2.size; simp at this; omega
  clear hb2 z2 y2 hdir
  go_wp2_with fail
  with_reducible refine (htk _).mono ?_
  rintro e w3 ⟨rfl, hb3⟩
  have z3 := blk_keep Z2.out hb3
  have y3 := blk_keep Y2.out hb3
  have cz3 := blk_cell z3
  have fz3 := blk_free z3
  have lz3 := lt_of_block z3
  have B3 := Lib.hid (below_base B2.out B2.out.size hb3)
  have Z3 := Lib.hid z3
  have Y3 := Lib.hid y3
  clear hb3 z3 y3 cz2 lz2 htk
  go_wp2_with fail
  obtain ⟨w4, hw4⟩ : ∃ w4, w4 = set4 w3 w1.heap.size (.int .i64 2) (.int .i64 0) (.int .i64 0) (.string F) := ⟨_, rfl⟩
  have Z4 : Hid (w4.heap[w1.heap.size]? = some (pagO 2 0 0 F)) := Lib.hid (by rw [hw4]; exact set4_same Z3.out _ _ _ _)
  have Y4 : Hid (w4.heap[w2.heap.size]? = some (pagO 1 0 0 E)) := Lib.hid (by rw [hw4]; exact hs4 Y3.out (by omega))
  have B4 : Hid (Below w.heap.size w w4) := Lib.hid (by rw [hw4]; exact below_set4 B3.out hw1 _ _ _ _)
  refine wp_world hw4 ?_
  clear hw4 cz3 fz3 lz3
  refine wp_region_held_drew (S := (Bz w4)) (by kernel_rfl) (below_dr (Below.refl _ _)) (fun hHeld => ?_)
  refine Ra.W 0 ?_ ?_ hHeld ?_
  rotate_left
  · intro wq hSw
    have hSc := blk_cell (blk_keep Z4.out hSw); have hSl := lt_of_block (blk_keep Z4.out hSw); have hSd := blk_cell (blk_keep Y4.out hSw); have hSe := lt_of_block (blk_keep Y4.out hSw)
    go_simp
    try with_reducible rfl
  try simp only [Act.put, List.getElem_toArray, List.getElem_cons_succ, List.getElem_cons_zero, List.setIfInBounds_toArray, List.set_cons_zero, List.set_cons_succ]
  refine Ra.W 1 ?_ ?_ hHeld ?_
  rotate_left
  · intro wq hSw
    have hSc := blk_cell (blk_keep Z4.out hSw); have hSl := lt_of_block (blk_keep Z4.out hSw); have hSd := blk_cell (blk_keep Y4.out hSw); have hSe := lt_of_block (blk_keep Y4.out hSw)
    go_simp
    try with_reducible rfl
  try simp only [Act.put, List.getElem_toArray, List.getElem_cons_succ, List.getElem_cons_zero, List.setIfInBounds_toArray, List.set_cons_zero, List.set_cons_succ]
  refine wpAnyH_ready (rs := [2]) (by kernel_rfl) (by simp) ?_
  refine AllReadyH.cons rfl (fun K hK => ?_) AllReadyH.nil
  rw [if_pos (by kernel_rfl)]
  go_simp
  (with_reducible refine (hem _).mono ?_)
  rintro e w6 ⟨rfl, hb6⟩
  have H6 := below_tr hHeld hb6
  go_simp
  refine hK.out _ _ (below_tr hHeld hb6) (fun hHeld2 => ?_)
  clear hK K
  try clear hHeld
  have hHeld := hHeld2
  try clear hHeld2
  refine wpAnyH_ready (rs := [3]) (by kernel_rfl) (by simp) ?_
  refine AllReadyH.cons rfl (fun K hK => ?_) AllReadyH.nil
  rw [if_pos (by kernel_rfl)]
  go_simp
  skip
  refine hK.out _ _ (below_al H6 _) (fun hHeld2 => ?_)
  clear hK K
  try clear hHeld
  have hHeld := hHeld2
  try clear hHeld2
  refine Ra.W 4 ?_ ?_ hHeld ?_
  rotate_left
  · intro wq hSw
    go_simp
    try with_reducible rfl
  try simp only [Act.put, List.getElem_toArray, List.getElem_cons_succ, List.getElem_cons_zero, List.setIfInBounds_toArray, List.set_cons_zero, List.set_cons_succ]
  refine Ra.W 5 ?_ ?_ hHeld ?_
  rotate_left
  · intro wq hSw
    go_simp
    try with_reducible rfl
  try simp only [Act.put, List.getElem_toArray, List.getElem_cons_succ, List.getElem_cons_zero, List.setIfInBounds_toArray, List.set_cons_zero, List.set_cons_succ]
  refine wpAnyH_done (by kernel_rfl) ?_ _
  have B7 := Lib.hid (below_base B4.out B4.out.size hHeld)
  have hz := heap_alloc_new w6 (.cells #[.int .i64 1, .int .i64 0, .int .i64 0, .string E, .int .i64 2, .int .i64 0, .int .i64 0, .string F, .int .i64 3, .int .i64 0, .int .i64 0, .string Z] 113)
  have HZ := Lib.hid hz
  have hg : Hid (w.heap.size ≤ w6.heap.size) := Lib.hid (below_base B4.out B4.out.size H6).size
  clear hHeld hz H6 hb6
  go_wp2_with fail
  go_ret2
  exact ⟨_, rfl, hg.out, HZ.out, B7.out⟩
end Go.Proofs.YtijhamllnnilbaaGreatDoor.Ha
namespace Go.Proofs.YtijhamllnnilbaaGreatDoor.Ha
open Go.RowKit Go.Proofs.YtijhamllnnilbaaGreatDoor.Mem Go.Proofs.YtijhamllnnilbaaGreatDoor.Pg Go.Proofs.YtijhamllnnilbaaGreatDoor.Kp Go.Proofs.YtijhamllnnilbaaGreatDoor.Sp Go.Proofs.YtijhamllnnilbaaGreatDoor.Gr
set_option linter.unusedSimpArgs false
set_option linter.unusedVariables false
end Go.Proofs.YtijhamllnnilbaaGreatDoor.Ha
namespace Go.Proofs.YtijhamllnnilbaaGreatDoor.Ha
open Go.RowKit Go.Proofs.YtijhamllnnilbaaGreatDoor.Mem Go.Proofs.YtijhamllnnilbaaGreatDoor.Pg Go.Proofs.YtijhamllnnilbaaGreatDoor.Kp Go.Sort Go.Shelf
set_option linter.unusedSimpArgs false
set_option linter.unusedVariables false
end Go.Proofs.YtijhamllnnilbaaGreatDoor.Ha
namespace Go.Proofs.YtijhamllnnilbaaGreatDoor.Ha
open Go.RowKit Go.Proofs.YtijhamllnnilbaaGreatDoor.Mem Go.Proofs.YtijhamllnnilbaaGreatDoor.Pg Go.Proofs.YtijhamllnnilbaaGreatDoor.Kp Go.Proofs.YtijhamllnnilbaaGreatDoor.Sp Go.Proofs.YtijhamllnnilbaaGreatDoor.Gr
set_option linter.unusedSimpArgs false
set_option linter.unusedVariables false
end Go.Proofs.YtijhamllnnilbaaGreatDoor.Ha
namespace Go.Proofs.YtijhamllnnilbaaGreatDoor.Undo
open Go.RowKit

theorem on_any (k tx p n : Int) (c4 c5 c6 c7 c8 c9 c10 c11 c12 c13 : Value) (w : World) :
    Calls Tryz.prog 182 #[.agg #[.int .i64 k, .int .i64 tx, .int .i64 p, .int .i64 n, c4, c5, c6, c7, c8, c9, c10, c11, c12, c13]] w fun e w' =>
      e = .returned (.tuple #[.int .i64 (onF k p n).1, .bool (onF k p n).2.1, .bool (onF k p n).2.2]) ∧ Below w.heap.size w w' := by
  by_cases h1 : k = 1
  · subst h1
    go_enter Tryz.func182, Tryz.ntmps182
    go_wp2
    go_ret3
    exact ⟨by simp [onF], (Below.refl _ _).alloc (Nat.le_refl _) _⟩
  · have e1 : (k == 1) = false := by simpa using h1
    by_cases h2 : k = 2
    · subst h2
      go_enter Tryz.func182, Tryz.ntmps182
      go_wp2
      go_ret3
      exact ⟨by simp [onF], (Below.refl _ _).alloc (Nat.le_refl _) _⟩
    · have e2 : (k == 2) = false := by simpa using h2
      by_cases h6 : k = 6
      · subst h6
        go_enter Tryz.func182, Tryz.ntmps182
        go_wp2
        go_ret3
        exact ⟨by simp [onF], (Below.refl _ _).alloc (Nat.le_refl _) _⟩
      · have e6 : (k == 6) = false := by simpa using h6
        by_cases h4 : k = 4
        · subst h4
          go_enter Tryz.func182, Tryz.ntmps182
          go_wp2
          go_ret3
          exact ⟨by simp [onF], (Below.refl _ _).alloc (Nat.le_refl _) _⟩
        · have e4 : (k == 4) = false := by simpa using h4
          go_enter Tryz.func182, Tryz.ntmps182
          go_wp2
          go_ret3
          exact ⟨by simp [onF, h1, h2, h6, h4], (Below.refl _ _).alloc (Nat.le_refl _) _⟩
end Go.Proofs.YtijhamllnnilbaaGreatDoor.Undo
