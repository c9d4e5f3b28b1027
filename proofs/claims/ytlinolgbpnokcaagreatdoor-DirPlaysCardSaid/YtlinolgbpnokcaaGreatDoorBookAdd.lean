/- The contract of the book's Ints: one more list. -/
import Derived.Test.YtlinolgbpnokcaaGreatDoorBookBase
namespace Go.Proofs.YtlinolgbpnokcaaGreatDoor.Bk
open Go.RowKit Go.Proofs.YtlinolgbpnokcaaGreatDoor.Mem

set_option maxRecDepth 100000 in
set_option maxHeartbeats 1000000 in
theorem add_any {B pb n : Nat} {w : World} {o : Nat → Nat} {V U : Nat → Value} {X : Nat → List Int} {vI vW : Value} (hk : Book B pb n w o V U X vI vW) (v : Value) (xs : List Int) (hl : w.ownsRow B 3 1 v xs.length (ints xs)) (ht : Tag o v (2 * n + 3)) (hn : n < 250) (hx : xs.length ≤ 1000000) :
    Calls Tryz.prog 13 #[.pointer (some ⟨pb, 0, none⟩), v] w fun e w' => e = .returned (.tuple #[]) ∧
      ∃ o' u vI' vW', Book B pb (n + 1) w' o' (upd V n v) (upd U n u) (upd X n xs) vI' vW' ∧ (∀ k, k < w.heap.size → o' k = o k) ∧ (∀ k, k < w.heap.size → 3 ≤ o k → w'.heap[k]? = w.heap[k]?) ∧ Below B w w' := by
  obtain ⟨i0, hif, hz0, hz1, hz2⟩ := info_parts info_ints
  have c1 := blk_cell hk.blk
  have c1f := blk_free hk.blk
  have z1 := lt_of_block hk.blk
  obtain ⟨aI, cI, rfl⟩ := own_slice hk.rI
  obtain ⟨aW, cW, rfl⟩ := own_slice hk.rW
  obtain ⟨aV, cV, rfl⟩ := own_slice hl
  have i1 : decide ((n : Int) < 250) = true := by simp; omega
  go_enter Tryz.func13, Tryz.ntmps13
  have hxi := ints_of_own hl
  obtain ⟨A', c', hA', hxi⟩ := hxi
  injection hA' with e1 e2 e3
  subst e1
  subst e3
  have hsz := row_lt hk.rI
  have hne : some pb ≠ (Value.slice aI n cI).ownBlock := fun e => by
    have := hk.tI pb e.symm
    have := hk.tp
    omega
  go_wp2_with (at_builtin; refine wpList_append_lies _ rfl (.tmp 14) (.tmp 16) _ rfl B 29 i0 nl 1 24 Tryz.underlying31 hif hz0 hz1 hz2 rfl (by decide) (.slice aI n cI) n (hdr V n) rfl (hk.rI.alloc _) ⟨w.heap.size, 0, none⟩ 1 1 [.slice aV xs.length cV] rfl rfl (cells_one _ _ _) (by intro u hu; simp at hu; subst hu; rfl) (by omega) (by unfold maxLen; omega) (by omega) (by have := hk.hB; simp; omega) _ rfl ?_; intro gI cI' w2 hI2 hg2 hat2 hlI; have k2 := blk_grown (hal hk.blk) hg2 hne; have c2 := blk_cell k2; have c2f := blk_free k2; have z2 := lt_of_block k2; clear c1 c1f)
  have hgI : gI ≠ pb := by
    rcases hat2 with h | h
    · exact fun e => hne (by rw [h, e])
    · have : gI = w.heap.size + 1 := by simpa using h
      omega
  have k3 : (w2.setCell ⟨pb, 0, none⟩ (.slice (some ⟨gI, 0, none⟩) (n + 1) cI')).heap[pb]? = some (.cells (bcs (.slice (some ⟨gI, 0, none⟩) (n + 1) cI') (.slice aW n cW)) 41 (0, 0)) := heap_setCell_same _ pb 0 _ _ _ k2
  have rI3 := ownsRow_setCell_other hI2 (a := ⟨pb, 0, none⟩) (fun e => hgI (by simpa [Value.ownBlock] using e)) (.slice (some ⟨gI, 0, none⟩) (n + 1) cI')
  have b3 : Below B w (w2.setCell ⟨pb, 0, none⟩ (.slice (some ⟨gI, 0, none⟩) (n + 1) cI')) := below_set (below_grown ((Below.refl B w).alloc (by have := hk.hB; omega) _) (by have := hk.hB; simp; omega) hk.rI hg2) hk.hB
  have G3 : ∀ g, g < w.heap.size → o g ≠ 0 → o g ≠ 1 → (w2.setCell ⟨pb, 0, none⟩ (.slice (some ⟨gI, 0, none⟩) (n + 1) cI')).heap[g]? = w.heap[g]? := fun g h1 h2 h3 => by
    rw [heap_setCell_other _ _ _ _ (fun e => h2 (by rw [e]; exact hk.tp)), hg2.block g (by simp; omega) (fun e => h3 (hk.tI g e.symm)), heap_alloc_old _ _ h1]
  have s3 : w.heap.size + 1 ≤ (w2.setCell ⟨pb, 0, none⟩ (.slice (some ⟨gI, 0, none⟩) (n + 1) cI')).heap.size := by have := hg2.size; simpa using this
  have hT1 : gI = w.heap.size + 1 ∨ (gI < w.heap.size ∧ o gI = 1) := by
    rcases hat2 with h | h
    · exact .inr ⟨hsz _ h, hk.tI _ h⟩
    · exact .inl (by simpa using h)
  have hlI3 : gI < (w2.setCell ⟨pb, 0, none⟩ (.slice (some ⟨gI, 0, none⟩) (n + 1) cI')).heap.size := by simpa using hlI
  generalize w2.setCell ⟨pb, 0, none⟩ (.slice (some ⟨gI, 0, none⟩) (n + 1) cI') = w3 at *
  have rW3 : w3.ownsRow B 29 1 (.slice aW n cW) n (hdr U n) := row_same hk.rW fun g hg => G3 g (row_lt hk.rW g hg) (by have := hk.tW g hg; omega) (by have := hk.tW g hg; omega)
  have rx3 : w3.ownsRow B 3 1 (.slice aV xs.length cV) xs.length (ints xs) := row_same hl fun g hg => G3 g (row_lt hl g hg) (by have := ht g hg; omega) (by have := ht g hg; omega)
  obtain ⟨A', c', hA', hx3⟩ := ints_of_own rx3
  injection hA' with e1 _ _
  subst e1
  have c3 := blk_cell k3
  have c3f := blk_free k3
  have z3 := lt_of_block k3
  clear c2 c2f k2 z2 hg2 hI2 hat2 hlI hxi z1
  have hne3 : some pb ≠ (Value.slice aW n cW).ownBlock := fun e => by
    have := hk.tW pb e.symm
    have := hk.tp
    omega
  go_region_law (first | (refine step_append_lies _ (by rfl) _ _ _ (by rfl) B 29 i0 nl 1 24 Tryz.underlying31 hif hz0 hz1 hz2 rfl (by decide) (.slice aW n cW) n (hdr U n) (by rfl) ((own_below rW3.drew hb4).alloc _) ⟨w4.heap.size, 0, none⟩ 1 1 [.slice Au xs.length cu] (by rfl) (by rfl) (cells_one _ _ _) hu1 (by omega) (by unfold maxLen; omega) (by omega) (by have := hb4.size; simp at this ⊢; have := hk.hB; omega) _ rfl ?_; intro gW cW' w6 hW6 hg6 hat6 hlW; have k6 := blk_grown (hal k4) hg6 hne3; have c6 := blk_cell k6; have c6f := blk_free k6; have z6 := lt_of_block k6) | (go_simp; go_at_call 27; refine (copy_any _ _ _ xs _ (hx3.below (below_drN (Below.refl _ w3) 1)) hx).mono ?_; rintro e w4 ⟨u, rfl, hu, hb4⟩; have hu1 := one_of_row hu; obtain ⟨Au, cu, rfl⟩ := own_slice hu; have k4 := blk_keep (w := w3.drew) k3 hb4; have c4 := blk_cell k4; have c4f := blk_free k4; have z4 := lt_of_block k4))
  all_goals go_end0
  all_goals exact ⟨rfl, add_fin hk hl ht hgI hT1 rI3 b3 G3 s3 hlI3 hb4 hu hW6 hg6 hat6 k6⟩
end Go.Proofs.YtlinolgbpnokcaaGreatDoor.Bk
