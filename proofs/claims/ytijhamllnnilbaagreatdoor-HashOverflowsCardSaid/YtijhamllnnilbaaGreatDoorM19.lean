/- Lemmas of the claim, in their order:
- The contract of the entries' set.
- The contract of the laws' New: a store of n pages.
- A new store's pages; what the laws' New gives (for seats without Patches).
- The contract of blob.Pages.
-/
import Derived.Test.YtijhamllnnilbaaGreatDoorM16
import Derived.Test.YtijhamllnnilbaaGreatDoorM18
import Derived.Test.YtijhamllnnilbaaGreatDoorM17
import Derived.Test.YtijhamllnnilbaaGreatDoorM08
import Derived.OwnWalk
import Derived.Deep.RegionLaw
import Derived.Deep.RegionLawGrows
import Derived.Test.YtijhamllnnilbaaGreatDoorM01
set_option linter.unusedVariables false
set_option linter.unusedSimpArgs false
namespace Go.Proofs.YtijhamllnnilbaaGreatDoor.Dr
open Go.RowKit Go.Proofs.YtijhamllnnilbaaGreatDoor.Mem Go.Proofs.YtijhamllnnilbaaGreatDoor.Pg

set_option maxRecDepth 100000 in
set_option maxHeartbeats 4000000 in
theorem setOne_any (eb g n cap i : Nat) (v u : Int) (w : World) (h0 : w.cell? ⟨eb, 0, none⟩ = some (.slice (some ⟨g, 0, none⟩) n cap)) (h1 : w.cell? ⟨eb, 1, none⟩ = some (.int .i64 v)) (hi : i < n) (hn : n ≤ 1000)
    (hc : w.cell? ⟨g, i, none⟩ = some (.int .i64 u)) (hf : w.frozen? ⟨g, i, none⟩ = false) (hne : g ≠ eb) :
    Calls Tryz.prog 199 #[.pointer (some ⟨eb, 0, none⟩), .int .i64 i] w fun e w' => e = .returned (.tuple #[]) ∧ w' = (w.setCell ⟨g, i, none⟩ (.int .i64 v)).drew := by
  have i1 : (i : Int) < (n : Int) := by omega
  go_enter Tryz.func199, Tryz.ntmps199
  go_wp2_with fail
  refine wp_region_held_drew (S := fun w' => w'.cell? ⟨eb, 0, none⟩ = some (.slice (some ⟨g, 0, none⟩) n cap) ∧ w'.cell? ⟨eb, 1, none⟩ = some (.int .i64 v)) (by kernel_rfl) (⟨h0, h1⟩) (fun hHeld => ?_)
  refine wpAnyH_take (i := 0) (v := ?_) rfl (by kernel_rfl) (by kernel_rfl) (by kernel_rfl) (fun _ _ _ h => h) (Or.inl ⟨by rfl, ?_⟩) hHeld ?_
  rotate_left
  · intro wq hSw
    try dsimp only at hSw
    go_simp
    try rw [if_neg (by omega)]
    try rw [if_pos (by omega)]
    try with_reducible rfl
  try simp only [Act.put, List.setIfInBounds_toArray, List.set_cons_zero, List.set_cons_succ]
  refine wpAnyH_take (i := 1) (v := ?_) rfl (by kernel_rfl) (by kernel_rfl) (by kernel_rfl) (fun _ _ _ h => h) (Or.inl ⟨by rfl, ?_⟩) hHeld ?_
  rotate_left
  · intro wq hSw
    try dsimp only at hSw
    go_simp
    try rw [if_neg (by omega)]
    try rw [if_pos (by omega)]
    try with_reducible rfl
  try simp only [Act.put, List.setIfInBounds_toArray, List.set_cons_zero, List.set_cons_succ]
  refine wpAnyH_take (i := 2) (v := ?_) rfl (by kernel_rfl) (by kernel_rfl) (by kernel_rfl) (fun _ _ _ h => h) (Or.inl ⟨by rfl, ?_⟩) hHeld ?_
  rotate_left
  · intro wq hSw
    try dsimp only at hSw
    go_simp
    try rw [if_neg (by omega)]
    try rw [if_pos (by omega)]
    try with_reducible rfl
  try simp only [Act.put, List.setIfInBounds_toArray, List.set_cons_zero, List.set_cons_succ]
  refine wpAnyH_take (i := 3) (v := ?_) rfl (by kernel_rfl) (by kernel_rfl) (by kernel_rfl) (fun _ _ _ h => h) (Or.inl ⟨by rfl, ?_⟩) hHeld ?_
  rotate_left
  · intro wq hSw
    try dsimp only at hSw
    go_simp
    try rw [if_neg (by omega)]
    try rw [if_pos (by omega)]
    try with_reducible rfl
  try simp only [Act.put, List.setIfInBounds_toArray, List.set_cons_zero, List.set_cons_succ]
  refine wpAnyH_take (i := 4) (v := ?_) rfl (by kernel_rfl) (by kernel_rfl) (by kernel_rfl) (fun _ _ _ h => h) (Or.inl ⟨by rfl, ?_⟩) hHeld ?_
  rotate_left
  · intro wq hSw
    try dsimp only at hSw
    go_simp
    try rw [if_neg (by omega)]
    try rw [if_pos (by omega)]
    try with_reducible rfl
  try simp only [Act.put, List.setIfInBounds_toArray, List.set_cons_zero, List.set_cons_succ]
  refine wpAnyH_take (i := 5) (v := ?_) rfl (by kernel_rfl) (by kernel_rfl) (by kernel_rfl) (fun _ _ _ h => h) (Or.inl ⟨by rfl, ?_⟩) hHeld ?_
  rotate_left
  · intro wq hSw
    try dsimp only at hSw
    go_simp
    try rw [if_neg (by omega)]
    try rw [if_pos (by omega)]
    try with_reducible rfl
  try simp only [Act.put, List.setIfInBounds_toArray, List.set_cons_zero, List.set_cons_succ]
  refine wpAnyH_take (i := 6) (v := ?_) rfl (by kernel_rfl) (by kernel_rfl) (by kernel_rfl) (fun _ _ _ h => h) (Or.inl ⟨by rfl, ?_⟩) hHeld ?_
  rotate_left
  · intro wq hSw
    try dsimp only at hSw
    go_simp
    try rw [if_neg (by omega)]
    try rw [if_pos (by omega)]
    try with_reducible rfl
  try simp only [Act.put, List.setIfInBounds_toArray, List.set_cons_zero, List.set_cons_succ]
  refine wpAnyH_take (i := 7) (v := ?_) rfl (by kernel_rfl) (by kernel_rfl) (by kernel_rfl) (fun _ _ _ h => h) (Or.inl ⟨by rfl, ?_⟩) hHeld ?_
  rotate_left
  · intro wq hSw
    try dsimp only at hSw
    go_simp
    try rw [if_neg (by omega)]
    try rw [if_pos (by omega)]
    try with_reducible rfl
  try simp only [Act.put, List.setIfInBounds_toArray, List.set_cons_zero, List.set_cons_succ]
  refine wpAnyH_take (i := 8) (v := ?_) rfl (by kernel_rfl) (by kernel_rfl) (by kernel_rfl) (fun _ _ _ h => h) (Or.inl ⟨by rfl, ?_⟩) hHeld ?_
  rotate_left
  · intro wq hSw
    try dsimp only at hSw
    go_simp
    try rw [if_neg (by omega)]
    try rw [if_pos (by omega)]
    try with_reducible rfl
  try simp only [Act.put, List.setIfInBounds_toArray, List.set_cons_zero, List.set_cons_succ]
  refine wpAnyH_take (i := 9) (v := ?_) rfl (by kernel_rfl) (by kernel_rfl) (by kernel_rfl) (fun _ _ _ h => h) (Or.inl ⟨by rfl, ?_⟩) hHeld ?_
  rotate_left
  · intro wq hSw
    try dsimp only at hSw
    go_simp
    try rw [if_neg (by omega)]
    try rw [if_pos (by omega)]
    try with_reducible rfl
  try simp only [Act.put, List.setIfInBounds_toArray, List.set_cons_zero, List.set_cons_succ]
  refine wpAnyH_ready (rs := [10]) (by kernel_rfl) (by simp) ?_
  refine AllReadyH.cons rfl (fun K hK => ?_) AllReadyH.nil
  go_simp
  refine hK.out _ _ (⟨(World.cell?_setCell_other _ _ _ _ (fun e => by injection e with e1; omega)).trans hHeld.1, (World.cell?_setCell_other _ _ _ _ (fun e => by injection e with e1; omega)).trans hHeld.2⟩) (fun hHeld2 => ?_)
  clear hK K
  try clear hHeld
  have hHeld := hHeld2
  try clear hHeld2
  refine wpAnyH_done (by kernel_rfl) ?_ _
  go_end0
  exact ⟨rfl, rfl⟩
end Go.Proofs.YtijhamllnnilbaaGreatDoor.Dr
namespace Go.Proofs.YtijhamllnnilbaaGreatDoor.Gr
open Go.RowKit Go.Proofs.YtijhamllnnilbaaGreatDoor.Mem Go.Proofs.YtijhamllnnilbaaGreatDoor.Pg Go.Proofs.YtijhamllnnilbaaGreatDoor.Kp Go.Proofs.YtijhamllnnilbaaGreatDoor.Sp
set_option linter.unusedSimpArgs false
set_option linter.unusedVariables false

theorem info_string : (Tryz.prog.info? 9).map (fun i => (i.zero, i.size, i.bytes)) = some (some (.string ⟨#[]⟩), 1, 16) := by kernel_rfl
theorem own_set {w : World} {base k j n : Nat} {e : TypeId} {size : Nat} {v u : Value} {xs : List Value} (h : w.ownsRow base e size v n xs) (hk : k < base) : (w.setCell ⟨k, j, none⟩ u).ownsRow base e size v n xs := by
  refine ⟨h.1, ?_⟩
  rcases h.2 with h2 | ⟨g, cap, cur, h1, h2, h3, h4⟩
  · exact .inl h2
  · exact .inr ⟨g, cap, cur, h1, h2, (heap_setCell_other _ _ _ _ (show g ≠ k by omega)).trans h3, h4⟩
abbrev sto (v : Value) : Obj := .cells #[v, .int .i64 (-1)] 115 (0, 0)
/-- The bytes of a new store's pages. -/
def B0 (n i : Nat) : List UInt8 := if i = 1 then Pag.bytes ⟨2, 0, 0, newL n⟩ else zs 256
theorem B0_len (n i : Nat) : (B0 n i).length = 256 := by
  unfold B0
  split
  · exact Pag.bytes_len (Pag.ok_mk (by omega) (by omega) (by omega) (newL_len n))
  · exact zs_len 256
theorem newPage_ok (n : Nat) : Pag.ok ⟨2, 0, 0, newL n⟩ := Pag.ok_mk (by omega) (by omega) (by omega) (newL_len n)

set_option maxRecDepth 100000 in
set_option maxHeartbeats 4000000 in
theorem snew_any (n : Nat) (w : World) (ht : Tab w) (h8 : 8 ≤ n) (h64 : n ≤ 64) :
    Calls Tryz.prog 47 #[.int .i64 n] w fun e w' => ∃ sb qb c, e = .returned (.pointer (some ⟨sb, 0, none⟩)) ∧ w.heap.size ≤ sb ∧ w.heap.size ≤ qb ∧ Below w.heap.size w w' ∧ Sto w' sb qb n c (-1) (B0 n) := by
  have hz : ∀ w, Calls Tryz.prog 23 #[.int .i64 256] w fun e w' => e = .returned (.string (str (zs 256))) ∧ Below w.heap.size w w' := fun w => refZeros_any 256 w (by omega)
  have hnew := fun w => new_ok n w h8 h64
  have hput := fun W (k : Tab W) => put_yes ⟨2, 0, 0, newL n⟩ W k (newPage_ok n)
  simp only [Pag.v] at hput
  obtain ⟨Z, hZ⟩ : ∃ Z, Z = str (zs 256) := ⟨_, rfl⟩
  obtain ⟨P, hP⟩ : ∃ P, P = str (Pag.bytes ⟨2, 0, 0, newL n⟩) := ⟨_, rfl⟩
  obtain ⟨T, hT⟩ : ∃ T, T = str (newL n) := ⟨_, rfl⟩
  rw [← hZ] at hz
  rw [← hP, ← hT] at hput
  rw [← hT] at hnew
  have HZ := Lib.hid hZ
  have HP := Lib.hid hP
  obtain ⟨i0, hif, hz0, hz1, hz2⟩ := info_parts info_string
  have k3 : (w.alloc (.cells #[.slice none 0 0, .int .i64 (-1)] 115)).heap[w.heap.size]? = some (sto (.slice none 0 0)) := heap_alloc_new w _
  have b3 := below_al (Below.refl _ w) (.cells #[.slice none 0 0, .int .i64 (-1)] 115)
  have o3 : (w.alloc (.cells #[.slice none 0 0, .int .i64 (-1)] 115)).ownsRow (w.heap.size + 1) 9 1 (.slice none 0 0) 0 [] := World.ownsRow_nil _ _ _ _
  have HT0 := Lib.hid ht
  clear hZ hP hT ht
  go_enter Tryz.func47, Tryz.ntmps47
  go_wp2_with fail
  go_loopw [4] (fun i wr => ∃ (j : Nat) (v : Value), i = .int .i64 j ∧ j ≤ n ∧ wr.heap[w.heap.size]? = some (sto v) ∧ wr.ownsRow (w.heap.size + 1) 9 1 v j (List.replicate j (.string Z)) ∧ Below w.heap.size w wr) (fun i _ => n - (intOf i).toNat)
  case atStart => exact ⟨0, _, rfl, Nat.zero_le _, k3, o3, b3⟩
  case round =>
    clear k3 o3 b3
    obtain ⟨j, v, rfl, hj, k3, o3, b3⟩ := hrel
    have c3 := blk_cell k3
    have f3 := blk_free k3
    have z3 := lt_of_block k3
    by_cases hlt : j < n
    · have d1 : decide ((j : Int) < (n : Int)) = true := by simpa using hlt
      have d2 : decide (j < n) = true := by simpa using hlt
      go_wp2_with fail
      go_region_law (first | (go_simp; go_at_call 23; with_reducible refine (hz _).mono ?_; rintro e w2 ⟨rfl, hb2⟩; have k4 := blk_keep (w := wr.drew) k3 hb2; have c4 := blk_cell k4; have z4 := lt_of_block k4; have f4 := blk_free k4; have o4 := own_below o3.drew hb2) | (refine step_append_lies _ (by rfl) _ _ _ (by rfl) (w.heap.size + 1) 9 i0 _ 1 16 Tryz.underlying22 hif hz0 hz1 hz2 rfl (by omega) v j (List.replicate j (.string Z)) (by rfl) (o4.alloc _) ⟨w2.heap.size, 0, none⟩ 1 1 [.string Z] (by rfl) (by rfl) (cells_one _ _ _) (by simp [Value.oneCell']) (by omega) (by unfold maxLen; omega) (by omega) (by simp; omega) _ rfl ?_; intro g1 cap1 w4 own1 hgr1 hat1 hlt1; have k6 := keep_grown o4 hgr1 (Nat.lt_succ_self _) (hal k4); have c6 := blk_cell k6; have f6 := blk_free k6; have z6 := lt_of_block k6))
      all_goals
        have b2 := below_base (a := wr.drew) (below_dr b3) b3.size hb2
        have b6 := below_grown (below_al b2 (.cells #[.string Z] 9)) (by have := b2.size; simp; omega) (row_mono o4 (Nat.le_succ _)) hgr1
        have i1 : IntKind.i64.wrap ((j : Int) + 1) = (j : Int) + 1 := IntWalk.i64_in _ (by omega)
        go_wp2_with fail
        refine ⟨⟨j + 1, _, by go_num, by omega, heap_setCell_same _ _ 0 _ _ _ k6, ?_, below_set b6 (Nat.le_refl _)⟩, ?_⟩
        · rw [show List.replicate (j + 1) (Value.string Z) = List.replicate j (Value.string Z) ++ [Value.string Z] from List.replicate_succ']
          exact own_set own1 (Nat.lt_succ_self _)
        · clear i1
          simp [intOf]
          omega
    · obtain rfl : j = n := by omega
      have d1 : decide ((j : Int) < (j : Int)) = false := by simp
      have d3 : decide ((1 : Int) < (j : Int)) = true := by simp; omega
      have d3' : decide (1 < j) = true := by simp; omega
      obtain ⟨g, cap, cur, rfl, hgB, hblk, hcap, hcl⟩ : ∃ g cap cur, v = .slice (some ⟨g, 0, none⟩) j cap ∧ w.heap.size + 1 ≤ g ∧ wr.heap[g]? = some (.cells cur 9 (0, 0)) ∧ j ≤ cur.size ∧ ∀ i, i < j → cur[i]? = some (.string Z) := by
        rcases o3.2 with ⟨_, h⟩ | ⟨g, cap, cur, h1, h2, h3, h4, _, h5, h6⟩
        · omega
        · refine ⟨g, cap, cur, h1, h2, h3, by omega, fun i hi => ?_⟩
          have h7 : (cur.toList.take (j * 1))[i]? = some (.string Z) := by rw [h6, List.getElem?_replicate, if_pos hi]
          rw [List.getElem?_take_of_lt (by omega)] at h7
          simpa using h7
      have Hcl := Lib.hid hcl
      have zq := lt_of_block hblk
      have tr := HT0.out.below b3
      clear o3 hcl
      go_wp2_with fail
      with_reducible refine (hnew _).mono ?_
      rintro e w2 ⟨rfl, hb2⟩
      have hgz : g < w2.heap.size := Nat.lt_of_lt_of_le zq hb2.size
      have k4 := hal (o := .cells #[.int .i64 2, .int .i64 0, .int .i64 0, .string T] 113) (blk_keep k3 hb2)
      have kq := hal (o := .cells #[.int .i64 2, .int .i64 0, .int .i64 0, .string T] 113) (blk_keep hblk hb2)
      have kp := heap_alloc_new w2 (.cells #[.int .i64 2, .int .i64 0, .int .i64 0, .string T] 113)
      have b4 := below_al (below_base b3 b3.size hb2) (.cells #[.int .i64 2, .int .i64 0, .int .i64 0, .string T] 113)
      have c4 := blk_cell k4
      have z4 := lt_of_block k4
      have cq := blk_cell kq
      have zq4 := lt_of_block kq
      have cp := blk_cell kp
      have zp := lt_of_block kp
      have T4 := Lib.hid (HT0.out.below b4).drew
      clear c3 f3 z3 k3 hblk zq b3 hb2 tr
      go_wp2_with fail
      have hne1 : g ≠ w.heap.size := by omega
      have hne2 : g ≠ w2.heap.size := by omega
      have h1j : (1 : Int) < (j : Int) := by omega
      generalize hw5 : w2.alloc (.cells #[.int .i64 2, .int .i64 0, .int .i64 0, .string T] 113) = w5 at *
      go_region_law (go_simp; go_at_call 48; with_reducible refine (hput _ T4.out).mono ?_; rintro e w6 ⟨rfl, hb6⟩; have k6 := blk_keep (w := w5.drew) k4 hb6; have q6 := blk_keep (w := w5.drew) kq hb6; have c6 := blk_cell k6; have z6 := lt_of_block k6; have x6 := (blk_cell q6 1).trans (Hcl.out 1 (by omega)); have f6 := blk_free q6 1; have y6 := lt_of_block q6)
      all_goals
        have b6 := below_base (a := w5.drew) (below_dr b4) b4.size hb6
        go_wp2_with fail
        go_ret
        refine ⟨w.heap.size, g, cap, rfl, Nat.le_refl _, by omega, below_set b6 (by omega), ⟨?_, ⟨_, heap_setCell_same _ _ 1 _ _ _ q6, fun i hi => ?_⟩, by omega, by omega, fun i hi => by rw [B0_len]; omega⟩⟩
        · exact (heap_setCell_other _ _ _ _ (Ne.symm hne1)).trans k6
        · by_cases h1 : i = 1
          · subst h1
            rw [Array.getElem?_setIfInBounds, if_pos rfl, if_pos (by omega), HP.out]
            rfl
          · rw [Array.getElem?_setIfInBounds, if_neg (by omega), Hcl.out i hi, HZ.out, B0, if_neg h1]
end Go.Proofs.YtijhamllnnilbaaGreatDoor.Gr
namespace Go.Proofs.YtijhamllnnilbaaGreatDoor.Gr
open Go.RowKit Go.Proofs.YtijhamllnnilbaaGreatDoor.Mem Go.Proofs.YtijhamllnnilbaaGreatDoor.Pg Go.Proofs.YtijhamllnnilbaaGreatDoor.Kp Go.Proofs.YtijhamllnnilbaaGreatDoor.Sp
set_option linter.unusedVariables false
theorem below_keep {S : Nat → Prop} {B0 : Nat} {w a b : World} (h : Below B0 w a) (hB : B0 ≤ a.heap.size) (k : Keep S a b) (hs : ∀ i, S i → B0 ≤ i) : Below B0 w b := h.trans (k.to_below hB hs)
abbrev none0 : Int → Option (List UInt8) := fun _ => none
theorem rd_in {n : Nat} {B : Nat → List UInt8} {j : Nat} (h : j < n) : rd n (-1) B j = (B j, 0) := by
  unfold rd
  rw [if_neg (by omega), if_pos ⟨by omega, by omega⟩, Int.toNat_natCast]
theorem newMap (n : Nat) (h : 2 ≤ n) : MapPage n (-1) (B0 n) none0 0 0 (newL n) := by
  refine ⟨⟨Pag.bytes ⟨2, 0, 0, newL n⟩, ?_, .inl ⟨newPage_ok n, rfl⟩⟩⟩
  show rd n (-1) (B0 n) ((1 : Nat) : Int) = _
  rw [rd_in (by omega), B0, if_pos rfl]
end Go.Proofs.YtijhamllnnilbaaGreatDoor.Gr
namespace Go.Proofs.YtijhamllnnilbaaGreatDoor.Bl
open Go.RowKit Go.Proofs.YtijhamllnnilbaaGreatDoor.Mem Go.Proofs.YtijhamllnnilbaaGreatDoor.Pg

/-- How many pages a value of n bytes takes. -/
def pgN (n : Nat) : Nat := if n ≤ 40 ∨ 400 < n then 0 else (n + 199) / 200
theorem pgN_le (n : Nat) : pgN n ≤ 2 := by unfold pgN; split <;> omega

theorem blobPages_any (n : Nat) (w : World) (hn : n ≤ 1000000) :
    Calls Tryz.prog 72 #[.int .i64 n] w fun e w' => e = .returned (.int .i64 (pgN n)) ∧ w' = w := by
  by_cases h1 : n ≤ 40
  · have d1 : decide ((n : Int) ≤ 40) = true := by simp; omega
    go_enter Tryz.func72, Tryz.ntmps72
    go_wp2
    go_ret
    exact ⟨by unfold pgN; rw [if_pos (.inl h1)]; rfl, rfl⟩
  · have d1 : decide ((n : Int) ≤ 40) = false := by simp; omega
    by_cases h2 : 400 < n
    · have d2 : decide ((400 : Int) < (n : Int)) = true := by simp; omega
      go_enter Tryz.func72, Tryz.ntmps72
      go_wp2
      go_ret
      exact ⟨by unfold pgN; rw [if_pos (.inr h2)]; rfl, rfl⟩
    · have d2 : decide ((400 : Int) < (n : Int)) = false := by simp; omega
      have hd : ((n : Int) + 200 - 1).tdiv 200 = ((pgN n : Nat) : Int) := by
        unfold pgN
        rw [if_neg (by omega), Int.tdiv_eq_ediv_of_nonneg (by omega)]
        omega
      have hd2 : ((n : Int) + 200 - 1) / 200 = ((pgN n : Nat) : Int) := by
        unfold pgN
        rw [if_neg (by omega)]
        omega
      have hd3 : wrap64 ((pgN n : Nat) : Int) = ((pgN n : Nat) : Int) := IntWalk.wrap64_in _ (by have := pgN_le n; omega)
      go_enter Tryz.func72, Tryz.ntmps72
      go_wp2
      go_ret
      exact ⟨by first | rfl | (rw [h0]; rfl), rfl⟩
/-- The same at whatever number. -/
def pgI (z : Int) : Nat := if z ≤ 40 ∨ 400 < z then 0 else ((z + 199) / 200).toNat
theorem pgI_nat (n : Nat) : pgI n = pgN n := by unfold pgI pgN; split <;> split <;> omega
theorem pgI_le (z : Int) : pgI z ≤ 2 := by unfold pgI; split <;> omega
theorem blobPagesI_any (z : Int) (w : World) : Calls Tryz.prog 72 #[.int .i64 z] w fun e w' => e = .returned (.int .i64 (pgI z)) ∧ w' = w := by
  by_cases h1 : z ≤ 40
  · have h0 : pgI z = 0 := by unfold pgI; rw [if_pos (.inl h1)]
    go_enter Tryz.func72, Tryz.ntmps72
    go_wp2
    go_ret
    exact ⟨by first | rfl | (rw [h0]; rfl), rfl⟩
  · by_cases h2 : 400 < z
    · have h0 : pgI z = 0 := by unfold pgI; rw [if_pos (.inr h2)]
      go_enter Tryz.func72, Tryz.ntmps72
      go_wp2
      go_ret
      exact ⟨by first | rfl | (rw [h0]; rfl), rfl⟩
    · obtain ⟨n, rfl⟩ := Int.eq_ofNat_of_zero_le (show 0 ≤ z from by omega)
      rw [show ((pgI (n : Int) : Nat) : Int) = (pgN n : Int) by rw [pgI_nat]]
      exact blobPages_any n w (by omega)
end Go.Proofs.YtijhamllnnilbaaGreatDoor.Bl
