/- The contracts of the book's copyPages and Pages: one more list. -/
import Derived.Test.YtghbgajapdkofaaGreatDoorBookPg
import Derived.Deep.AppendLies
import Derived.RegionTactic
import Derived.Deep.RegionLaw
namespace Go.Proofs.YtghbgajapdkofaaGreatDoor.Bp
open Go.RowKit Go.Proofs.YtghbgajapdkofaaGreatDoor.Mem Go.Proofs.YtghbgajapdkofaaGreatDoor.Bk

theorem info_pgs2 : (Tryz.prog.info? 23).map (fun i => (i.zero, i.size, i.bytes)) = some (some nl, 1, 24) := by kernel_rfl
theorem pages_get (l : List P4) (j : Nat) (u : Value) (hu : (pages l)[j]? = some u) : ∃ i c p, j = i * 4 + c ∧ c < 4 ∧ l[i]? = some p ∧ p.cells[c]? = some u := by
  have hj : j < l.length * 4 := by have := (List.getElem?_eq_some_iff.1 hu).1; rwa [pages_len] at this
  have hi : j / 4 < l.length := by omega
  refine ⟨j / 4, j % 4, l[j / 4], by omega, by omega, List.getElem?_eq_getElem hi, ?_⟩
  rw [← pages_at l (j / 4) (j % 4) _ (List.getElem?_eq_getElem hi) (by omega), show j / 4 * 4 + j % 4 = j by omega]
  exact hu

set_option maxRecDepth 100000 in
set_option maxHeartbeats 1000000 in
theorem copyp_any (A : Option Addr) (c : Nat) (xs : List P4) (w : World) (ha : Rp w A xs) (hn : xs.length ≤ 1000000) :
    Calls Tryz.prog 22 #[.slice A xs.length c] w fun e w' => ∃ v, e = .returned v ∧ w'.ownsRow w.heap.size 26 4 v xs.length (pages xs) ∧ Below w.heap.size w w' := by
  obtain ⟨i0, hif, hz0, hz1, hz2⟩ := info_parts info_page
  have hpl := pages_len xs
  have hone := pages_one xs
  cases A with
  | none =>
    obtain rfl : xs = [] := by
      rcases Nat.eq_zero_or_pos xs.length with h | h
      · exact List.eq_nil_of_length_eq_zero h
      · obtain ⟨b, off, hA, _⟩ := ha.2 h
        cases hA
    go_enter Tryz.func22, Tryz.ntmps22
    go_wp2
    go_ret
    exact ⟨_, rfl, World.ownsRow_nil _ _ _ _, Below.refl _ _⟩
  | some a =>
    have hnews : ∀ j u, (pages xs)[j]? = some u → w.cell? (a.add j) = some u := by
      intro j u hu
      obtain ⟨i, c, p, rfl, hc4, hp, hpc⟩ := pages_get xs j u hu
      obtain ⟨b, off, hA, _, hc⟩ := ha.2 (by have := (List.getElem?_eq_some_iff.1 hp).1; omega)
      injection hA with hA
      subst hA
      rw [Go.WideShapes.add_plain, ← Nat.add_assoc, hc i p hp c hc4]
      exact hpc
    obtain ⟨n, hn2⟩ : ∃ n, n = xs.length := ⟨_, rfl⟩
    rw [← hn2] at hpl hn ⊢
    have Hn2 := Lib.hid hn2
    clear hn2
    go_enter Tryz.func22, Tryz.ntmps22
    go_wp2_with (at_builtin; refine wpList_append_own _ rfl (.const (.slice none 0 0)) (.tmp 3) _ rfl w.heap.size 26 i0 _ 4 40 Tryz.underlying23 hif hz0 hz1 hz2 rfl (by decide) _ 0 [] rfl (World.ownsRow_nil _ _ _ _) a n c (pages xs) rfl hpl hnews hone (by unfold maxLen; omega) (by omega) (Nat.le_refl _) ?_; intro v' w3 hown' hgrow _)
    go_ret
    rw [Nat.zero_add, List.nil_append] at hown'
    exact ⟨_, rfl, hown', below_grown (Below.refl _ w) (Nat.le_refl _) (World.ownsRow_nil w w.heap.size 26 4) hgrow⟩

theorem add_fin {B pb n : Nat} {w w3 w4 w6 : World} {o : Nat → Nat} {V U : Nat → Value} {X : Nat → List P4} {vI v u : Value} {xs : List P4} {aW : Option Addr} {cW gI cI' gW cW' : Nat}
    (hk : BookP B pb n w o V U X vI (.slice aW n cW)) (hl : w.ownsRow B 26 4 v xs.length (pages xs)) (ht : Tag o v (2 * n + 3)) (hgI : gI ≠ pb) (hT1 : gI = w.heap.size + 1 ∨ (gI < w.heap.size ∧ o gI = 1))
    (rI3 : w3.ownsRow B 23 1 (.slice (some ⟨gI, 0, none⟩) (n + 1) cI') (n + 1) (hdr V n ++ [v])) (b3 : Below B w w3) (G3 : ∀ g, g < w.heap.size → o g ≠ 0 → o g ≠ 1 → w3.heap[g]? = w.heap[g]?) (s3 : w.heap.size + 1 ≤ w3.heap.size) (hlI3 : gI < w3.heap.size)
    (hb4 : Below (w3.drewN 1).heap.size (w3.drewN 1) w4) (hu : w4.ownsRow (w3.drewN 1).heap.size 26 4 u xs.length (pages xs))
    (hW6 : w6.ownsRow B 23 1 (.slice (some ⟨gW, 0, none⟩) (n + 1) cW') (n + 1) (hdr U n ++ [u])) (hg6 : (w4.alloc (.cells #[u] 23)).grownBy w6 (Value.slice aW n cW).ownBlock)
    (hat6 : (Value.slice aW n cW).ownBlock = some gW ∨ gW = (w4.alloc (.cells #[u] 23)).heap.size) 
    (k6 : w6.heap[pb]? = some (.cells (bcp (.slice (some ⟨gI, 0, none⟩) (n + 1) cI') (.slice aW n cW)) 46 (0, 0))) :
    ∃ o' u' vI' vW', BookP B pb (n + 1) (w6.setCell ⟨pb, 7, none⟩ (.slice (some ⟨gW, 0, none⟩) (n + 1) cW')) o' (upd V n v) (upd U n u') (upd X n xs) vI' vW' ∧ (∀ k, k < w.heap.size → o' k = o k) ∧
      (∀ k, k < w.heap.size → 3 ≤ o k → (w6.setCell ⟨pb, 7, none⟩ (.slice (some ⟨gW, 0, none⟩) (n + 1) cW')).heap[k]? = w.heap[k]?) ∧ Below B w (w6.setCell ⟨pb, 7, none⟩ (.slice (some ⟨gW, 0, none⟩) (n + 1) cW')) := by
  have hp := lt_of_block hk.blk
  have h34 : w3.heap.size ≤ w4.heap.size := hb4.size
  have h46 : w4.heap.size + 1 ≤ w6.heap.size := by have := hg6.size; simpa using this
  have hBw := hk.hB
  -- a block of the world ahead
  have G : ∀ g, g < w.heap.size → o g ≠ 0 → o g ≠ 1 → o g ≠ 2 → (w6.setCell ⟨pb, 7, none⟩ (.slice (some ⟨gW, 0, none⟩) (n + 1) cW')).heap[g]? = w.heap[g]? := fun g h1 h2 h3 h4 => by
    rw [heap_setCell_other _ _ _ _ (fun e => h2 (by rw [e]; exact hk.tp)), hg6.block g (by simp; omega) (fun e => h4 (hk.tW g e.symm)), heap_alloc_old _ _ (by omega), hb4.block g (by simp; omega)]
    exact G3 g h1 h2 h3
  have R : ∀ {e : TypeId} {size m : Nat} {z : Value} {zs : List Value} {t : Nat}, w.ownsRow B e size z m zs → Tag o z t → 3 ≤ t → (w6.setCell ⟨pb, 7, none⟩ (.slice (some ⟨gW, 0, none⟩) (n + 1) cW')).ownsRow B e size z m zs := fun {e size m z zs t} h k h3 =>
    row_same h fun g hg => by
      have := k g hg
      exact G g (row_lt h g hg) (by omega) (by omega) (by omega)
  have hW1 : ∀ g, (Value.slice aW n cW).ownBlock = some g → g < w.heap.size ∧ o g = 2 := fun g hg => ⟨row_lt hk.rW g hg, hk.tW g hg⟩
  have hgW : gW ≠ pb := by
    rcases hat6 with h | h
    · have := hW1 _ h
      have := hk.tp
      rintro rfl
      omega
    · have : gW = w4.heap.size + 1 := by simpa using h
      omega
  have hIW : some gI ≠ (Value.slice aW n cW).ownBlock := fun e => by
    have := hW1 _ e.symm
    omega
  refine ⟨ext (ext (ext o w.heap.size 1) w3.heap.size (2 * n + 4)) w4.heap.size 2, u, _, _, ⟨hk.hB, heap_setCell_same _ pb 7 _ _ _ k6, ?_, ?_, ?_, ?_, ?_, ?_, ?_, ?_, ?_⟩, ?_, ?_, ?_⟩
  · rw [hdr_upd]
    refine ownsRow_setCell_other ?_ (by simpa [Value.ownBlock] using hgI) _
    exact (((own_below (w := w3.drewN 1) rI3 hb4).alloc _).kept hg6 (.inr hIW))
  · rw [hdr_upd]
    exact ownsRow_setCell_other hW6 (by simpa [Value.ownBlock] using hgW) _
  · intro i hi
    by_cases h : i < n
    · rw [upd_lt _ _ h, upd_lt _ _ h]
      exact R (hk.rv i h) (hk.tv i h) (by omega)
    · obtain rfl : i = n := by omega
      rw [upd_same, upd_same]
      exact R hl ht (by omega)
  · intro i hi
    by_cases h : i < n
    · rw [upd_lt _ _ h, upd_lt _ _ h]
      exact R (hk.ru i h) (hk.tu i h) (by omega)
    · obtain rfl : i = n := by omega
      rw [upd_same, upd_same]
      have hu0 : ∀ g, u.ownBlock = some g → w3.heap.size ≤ g := fun g hg => row_ge hu g hg
      refine ownsRow_setCell_other ?_ (fun e => by have := hu0 _ e; simp at this; omega) _
      refine ((row_mono hu (B := B) (by simp; omega)).alloc _).kept hg6 ?_
      cases hb : u.ownBlock with
      | none => exact .inl rfl
      | some g =>
        refine .inr fun e => ?_
        have := hu0 g hb
        have := hW1 g e.symm
        omega
  · rw [ext_lt (by omega), ext_lt (by omega), ext_lt hp]
    exact hk.tp
  · intro g hg
    obtain rfl : gI = g := by simpa [Value.ownBlock] using hg
    rw [ext_lt (by omega), ext_lt hlI3]
    rcases hT1 with h | h
    · exact ext_ge (by omega)
    · rw [ext_lt h.1]
      exact h.2
  · intro g hg
    obtain rfl : gW = g := by simpa [Value.ownBlock] using hg
    rcases hat6 with h | h
    · have := hW1 _ h
      rw [ext_lt (by omega), ext_lt (by omega), ext_lt (by omega)]
      exact this.2
    · have : gW = w4.heap.size + 1 := by simpa using h
      exact ext_ge (by omega)
  · intro i hi
    by_cases h : i < n
    · rw [upd_lt _ _ h]
      intro g hg
      have := row_lt (hk.rv i h) g hg
      rw [ext_lt (by omega), ext_lt (by omega), ext_lt (by omega)]
      exact hk.tv i h g hg
    · obtain rfl : i = n := by omega
      rw [upd_same]
      intro g hg
      have := row_lt hl g hg
      rw [ext_lt (by omega), ext_lt (by omega), ext_lt (by omega)]
      exact ht g hg
  · intro i hi
    by_cases h : i < n
    · rw [upd_lt _ _ h]
      intro g hg
      have := row_lt (hk.ru i h) g hg
      rw [ext_lt (by omega), ext_lt (by omega), ext_lt (by omega)]
      exact hk.tu i h g hg
    · obtain rfl : i = n := by omega
      rw [upd_same]
      intro g hg
      have h1 := row_lt hu g hg
      have h2 : w3.heap.size ≤ g := row_ge hu g hg
      rw [ext_lt h1, ext_ge h2]
  · intro k h
    rw [ext_lt (by omega), ext_lt (by omega), ext_lt h]
  · intro k h h3
    exact G k h (by omega) (by omega) (by omega)
  · have h1 : Below B w w4 := below_base (a := w3.drewN 1) (below_drN b3 1) (by simp; omega) hb4
    exact below_set (below_grown (h1.alloc (by omega) _) (by simp; omega) hk.rW hg6) hBw

set_option maxRecDepth 100000 in
set_option maxHeartbeats 1000000 in
theorem add_any {B pb n : Nat} {w : World} {o : Nat → Nat} {V U : Nat → Value} {X : Nat → List P4} {vI vW : Value} (hk : BookP B pb n w o V U X vI vW) (v : Value) (xs : List P4) (hl : w.ownsRow B 26 4 v xs.length (pages xs)) (ht : Tag o v (2 * n + 3)) (hn : n < 250) (hx : xs.length ≤ 1000000) :
    Calls Tryz.prog 11 #[.pointer (some ⟨pb, 0, none⟩), v] w fun e w' => e = .returned (.tuple #[]) ∧
      ∃ o' u vI' vW', BookP B pb (n + 1) w' o' (upd V n v) (upd U n u) (upd X n xs) vI' vW' ∧ (∀ k, k < w.heap.size → o' k = o k) ∧ (∀ k, k < w.heap.size → 3 ≤ o k → w'.heap[k]? = w.heap[k]?) ∧ Below B w w' := by
  obtain ⟨i0, hif, hz0, hz1, hz2⟩ := info_parts info_pgs2
  have c1 := blk_cell hk.blk
  have c1f := blk_free hk.blk
  have z1 := lt_of_block hk.blk
  obtain ⟨aI, cI, rfl⟩ := own_slice hk.rI
  obtain ⟨aW, cW, rfl⟩ := own_slice hk.rW
  obtain ⟨aV, cV, rfl⟩ := own_slice hl
  have i1 : decide ((n : Int) < 250) = true := by simp; omega
  go_enter Tryz.func11, Tryz.ntmps11
  have hsz := row_lt hk.rI
  have hne : some pb ≠ (Value.slice aI n cI).ownBlock := fun e => by
    have := hk.tI pb e.symm
    have := hk.tp
    omega
  go_wp2_with (at_builtin; refine wpList_append_lies _ rfl (.tmp 14) (.tmp 16) _ rfl B 23 i0 nl 1 24 Tryz.underlying39 hif hz0 hz1 hz2 rfl (by decide) (.slice aI n cI) n (hdr V n) rfl (hk.rI.alloc _) ⟨w.heap.size, 0, none⟩ 1 1 [.slice aV xs.length cV] rfl rfl (cells_one _ _ _) (by intro u hu; simp at hu; subst hu; rfl) (by omega) (by unfold maxLen; omega) (by omega) (by have := hk.hB; simp; omega) _ rfl ?_; intro gI cI' w2 hI2 hg2 hat2 hlI; have k2 := blk_grown (hal hk.blk) hg2 hne; have c2 := blk_cell k2; have c2f := blk_free k2; have z2 := lt_of_block k2; clear c1 c1f)
  have hgI : gI ≠ pb := by
    rcases hat2 with h | h
    · exact fun e => hne (by rw [h, e])
    · have : gI = w.heap.size + 1 := by simpa using h
      omega
  have k3 : (w2.setCell ⟨pb, 6, none⟩ (.slice (some ⟨gI, 0, none⟩) (n + 1) cI')).heap[pb]? = some (.cells (bcp (.slice (some ⟨gI, 0, none⟩) (n + 1) cI') (.slice aW n cW)) 46 (0, 0)) := heap_setCell_same _ pb 6 _ _ _ k2
  have rI3 := ownsRow_setCell_other hI2 (a := ⟨pb, 6, none⟩) (fun e => hgI (by simpa [Value.ownBlock] using e)) (.slice (some ⟨gI, 0, none⟩) (n + 1) cI')
  have b3 : Below B w (w2.setCell ⟨pb, 6, none⟩ (.slice (some ⟨gI, 0, none⟩) (n + 1) cI')) := below_set (below_grown ((Below.refl B w).alloc (by have := hk.hB; omega) _) (by have := hk.hB; simp; omega) hk.rI hg2) hk.hB
  have G3 : ∀ g, g < w.heap.size → o g ≠ 0 → o g ≠ 1 → (w2.setCell ⟨pb, 6, none⟩ (.slice (some ⟨gI, 0, none⟩) (n + 1) cI')).heap[g]? = w.heap[g]? := fun g h1 h2 h3 => by
    rw [heap_setCell_other _ _ _ _ (fun e => h2 (by rw [e]; exact hk.tp)), hg2.block g (by simp; omega) (fun e => h3 (hk.tI g e.symm)), heap_alloc_old _ _ h1]
  have s3 : w.heap.size + 1 ≤ (w2.setCell ⟨pb, 6, none⟩ (.slice (some ⟨gI, 0, none⟩) (n + 1) cI')).heap.size := by have := hg2.size; simpa using this
  have hT1 : gI = w.heap.size + 1 ∨ (gI < w.heap.size ∧ o gI = 1) := by
    rcases hat2 with h | h
    · exact .inr ⟨hsz _ h, hk.tI _ h⟩
    · exact .inl (by simpa using h)
  have hlI3 : gI < (w2.setCell ⟨pb, 6, none⟩ (.slice (some ⟨gI, 0, none⟩) (n + 1) cI')).heap.size := by simpa using hlI
  generalize w2.setCell ⟨pb, 6, none⟩ (.slice (some ⟨gI, 0, none⟩) (n + 1) cI') = w3 at *
  have rW3 : w3.ownsRow B 23 1 (.slice aW n cW) n (hdr U n) := row_same hk.rW fun g hg => G3 g (row_lt hk.rW g hg) (by have := hk.tW g hg; omega) (by have := hk.tW g hg; omega)
  have rx3 : w3.ownsRow B 26 4 (.slice aV xs.length cV) xs.length (pages xs) := row_same hl fun g hg => G3 g (row_lt hl g hg) (by have := ht g hg; omega) (by have := ht g hg; omega)
  obtain ⟨A', c', hA', hx3⟩ := row_rp rx3
  injection hA' with e1 _ _
  subst e1
  have c3 := blk_cell k3
  have c3f := blk_free k3
  have z3 := lt_of_block k3
  clear c2 c2f k2 z2 hg2 hI2 hat2 hlI z1
  have hne3 : some pb ≠ (Value.slice aW n cW).ownBlock := fun e => by
    have := hk.tW pb e.symm
    have := hk.tp
    omega
  go_region_law (first | (refine step_append_lies _ (by rfl) _ _ _ (by rfl) B 23 i0 nl 1 24 Tryz.underlying39 hif hz0 hz1 hz2 rfl (by decide) (.slice aW n cW) n (hdr U n) (by rfl) ((own_below rW3.drew hb4).alloc _) ⟨w4.heap.size, 0, none⟩ 1 1 [.slice Au xs.length cu] (by rfl) (by rfl) (cells_one _ _ _) hu1 (by omega) (by unfold maxLen; omega) (by omega) (by have := hb4.size; simp at this ⊢; have := hk.hB; omega) _ rfl ?_; intro gW cW' w6 hW6 hg6 hat6 hlW; have k6 := blk_grown (hal k4) hg6 hne3; have c6 := blk_cell k6; have c6f := blk_free k6; have z6 := lt_of_block k6) | (go_simp; go_at_call 22; refine (copyp_any _ _ xs _ (hx3.below (below_drN (Below.refl _ w3) 1)) hx).mono ?_; rintro e w4 ⟨u, rfl, hu, hb4⟩; have hu1 := one_of_row hu; obtain ⟨Au, cu, rfl⟩ := own_slice hu; have k4 := blk_keep (w := w3.drew) k3 hb4; have c4 := blk_cell k4; have c4f := blk_free k4; have z4 := lt_of_block k4))
  all_goals go_end0
  all_goals exact ⟨rfl, add_fin hk hl ht hgI hT1 rI3 b3 G3 s3 hlI3 hb4 hu hW6 hg6 hat6 k6⟩
end Go.Proofs.YtghbgajapdkofaaGreatDoor.Bp
