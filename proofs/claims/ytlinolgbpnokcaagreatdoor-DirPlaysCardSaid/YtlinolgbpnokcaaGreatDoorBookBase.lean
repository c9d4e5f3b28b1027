/- The book: what holds of it; what one more list makes of it. -/
import Derived.Test.YtlinolgbpnokcaaGreatDoorBookMark
import Derived.Deep.AppendLies
import Derived.RegionTactic
import Derived.Deep.RegionLaw
namespace Go.Proofs.YtlinolgbpnokcaaGreatDoor.Bk
open Go.RowKit Go.Proofs.YtlinolgbpnokcaaGreatDoor.Mem

abbrev nl : Value := .slice none 0 0
/-- The book's cells: lists of ints, and copies. -/
abbrev bcs (a b : Value) : Array Value := #[a, b, nl, nl, nl, nl, nl, nl, nl, nl, nl, nl, nl, nl, nl, nl, nl, nl]
def hdr (V : Nat → Value) (n : Nat) : List Value := (List.range n).map V
theorem hdr_len (V : Nat → Value) (n : Nat) : (hdr V n).length = n := by simp [hdr]
theorem hdr_get (V : Nat → Value) (n i : Nat) (h : i < n) : (hdr V n)[i]? = some (V i) := by simp [hdr, h]
theorem hdr_succ (V : Nat → Value) (n : Nat) : hdr V (n + 1) = hdr V n ++ [V n] := by simp [hdr, List.range_succ]
def upd {α : Type} (V : Nat → α) (n : Nat) (v : α) : Nat → α := fun i => if i = n then v else V i
theorem upd_same {α : Type} (V : Nat → α) (n : Nat) (v : α) : upd V n v n = v := if_pos rfl
theorem upd_lt {α : Type} (V : Nat → α) {n i : Nat} (v : α) (h : i < n) : upd V n v i = V i := if_neg (by omega)
theorem hdr_upd (V : Nat → Value) (n : Nat) (v : Value) : hdr (upd V n v) (n + 1) = hdr V n ++ [v] := by
  rw [hdr_succ, upd_same]
  congr 1
  exact List.map_congr_left fun i hi => upd_lt V v (List.mem_range.1 hi)

theorem info_ints : (Tryz.prog.info? 29).map (fun i => (i.zero, i.size, i.bytes)) = some (some nl, 1, 24) := by kernel_rfl

theorem row_same {w w' : World} {base : Nat} {e : TypeId} {size n : Nat} {v : Value} {xs : List Value} (h : w.ownsRow base e size v n xs) (hb : ∀ g, v.ownBlock = some g → w'.heap[g]? = w.heap[g]?) : w'.ownsRow base e size v n xs := by
  refine ⟨h.1, ?_⟩
  rcases h.2 with h2 | ⟨g, cap, cur, rfl, h2, h3, h4⟩
  · exact .inl h2
  · exact .inr ⟨g, cap, cur, rfl, h2, by rw [hb g rfl]; exact h3, h4⟩

theorem row_mono {w : World} {base B : Nat} {e : TypeId} {size n : Nat} {v : Value} {xs : List Value} (h : w.ownsRow base e size v n xs) (hb : B ≤ base) : w.ownsRow B e size v n xs := by
  refine ⟨h.1, ?_⟩
  rcases h.2 with h2 | ⟨g, cap, cur, h1, h2, h3⟩
  · exact .inl h2
  · exact .inr ⟨g, cap, cur, h1, Nat.le_trans hb h2, h3⟩
theorem one_of_row {w : World} {base : Nat} {e : TypeId} {size n : Nat} {v : Value} {xs : List Value} (h : w.ownsRow base e size v n xs) : ∀ u ∈ [v], u.oneCell' = true := fun u hu => by
  obtain ⟨A, c, rfl⟩ := own_slice h
  obtain rfl : u = .slice A n c := by simpa using hu
  rfl

/-- The book, of n lists V, their copies U, what is in them X; o says whose a block is. -/
structure Book (B pb n : Nat) (w : World) (o : Nat → Nat) (V U : Nat → Value) (X : Nat → List Int) (vI vW : Value) : Prop where
  hB : B ≤ pb
  blk : w.heap[pb]? = some (.cells (bcs vI vW) 41 (0, 0))
  rI : w.ownsRow B 29 1 vI n (hdr V n)
  rW : w.ownsRow B 29 1 vW n (hdr U n)
  rv : ∀ i, i < n → w.ownsRow B 3 1 (V i) (X i).length (ints (X i))
  ru : ∀ i, i < n → w.ownsRow B 3 1 (U i) (X i).length (ints (X i))
  tp : o pb = 0
  tI : Tag o vI 1
  tW : Tag o vW 2
  tv : ∀ i, i < n → Tag o (V i) (2 * i + 3)
  tu : ∀ i, i < n → Tag o (U i) (2 * i + 4)

theorem add_fin {B pb n : Nat} {w w3 w4 w6 : World} {o : Nat → Nat} {V U : Nat → Value} {X : Nat → List Int} {vI v u : Value} {xs : List Int} {aW : Option Addr} {cW gI cI' gW cW' : Nat}
    (hk : Book B pb n w o V U X vI (.slice aW n cW)) (hl : w.ownsRow B 3 1 v xs.length (ints xs)) (ht : Tag o v (2 * n + 3)) (hgI : gI ≠ pb) (hT1 : gI = w.heap.size + 1 ∨ (gI < w.heap.size ∧ o gI = 1))
    (rI3 : w3.ownsRow B 29 1 (.slice (some ⟨gI, 0, none⟩) (n + 1) cI') (n + 1) (hdr V n ++ [v])) (b3 : Below B w w3) (G3 : ∀ g, g < w.heap.size → o g ≠ 0 → o g ≠ 1 → w3.heap[g]? = w.heap[g]?) (s3 : w.heap.size + 1 ≤ w3.heap.size) (hlI3 : gI < w3.heap.size)
    (hb4 : Below (w3.drewN 1).heap.size (w3.drewN 1) w4) (hu : w4.ownsRow (w3.drewN 1).heap.size 3 1 u xs.length (ints xs))
    (hW6 : w6.ownsRow B 29 1 (.slice (some ⟨gW, 0, none⟩) (n + 1) cW') (n + 1) (hdr U n ++ [u])) (hg6 : (w4.alloc (.cells #[u] 29)).grownBy w6 (Value.slice aW n cW).ownBlock)
    (hat6 : (Value.slice aW n cW).ownBlock = some gW ∨ gW = (w4.alloc (.cells #[u] 29)).heap.size) 
    (k6 : w6.heap[pb]? = some (.cells (bcs (.slice (some ⟨gI, 0, none⟩) (n + 1) cI') (.slice aW n cW)) 41 (0, 0))) :
    ∃ o' u' vI' vW', Book B pb (n + 1) (w6.setCell ⟨pb, 1, none⟩ (.slice (some ⟨gW, 0, none⟩) (n + 1) cW')) o' (upd V n v) (upd U n u') (upd X n xs) vI' vW' ∧ (∀ k, k < w.heap.size → o' k = o k) ∧
      (∀ k, k < w.heap.size → 3 ≤ o k → (w6.setCell ⟨pb, 1, none⟩ (.slice (some ⟨gW, 0, none⟩) (n + 1) cW')).heap[k]? = w.heap[k]?) ∧ Below B w (w6.setCell ⟨pb, 1, none⟩ (.slice (some ⟨gW, 0, none⟩) (n + 1) cW')) := by
  have hp := lt_of_block hk.blk
  have h34 : w3.heap.size ≤ w4.heap.size := hb4.size
  have h46 : w4.heap.size + 1 ≤ w6.heap.size := by have := hg6.size; simpa using this
  have hBw := hk.hB
  -- a block of the world ahead
  have G : ∀ g, g < w.heap.size → o g ≠ 0 → o g ≠ 1 → o g ≠ 2 → (w6.setCell ⟨pb, 1, none⟩ (.slice (some ⟨gW, 0, none⟩) (n + 1) cW')).heap[g]? = w.heap[g]? := fun g h1 h2 h3 h4 => by
    rw [heap_setCell_other _ _ _ _ (fun e => h2 (by rw [e]; exact hk.tp)), hg6.block g (by simp; omega) (fun e => h4 (hk.tW g e.symm)), heap_alloc_old _ _ (by omega), hb4.block g (by simp; omega)]
    exact G3 g h1 h2 h3
  have R : ∀ {e : TypeId} {size m : Nat} {z : Value} {zs : List Value} {t : Nat}, w.ownsRow B e size z m zs → Tag o z t → 3 ≤ t → (w6.setCell ⟨pb, 1, none⟩ (.slice (some ⟨gW, 0, none⟩) (n + 1) cW')).ownsRow B e size z m zs := fun {e size m z zs t} h k h3 =>
    row_same h fun g hg => by
      have := k g hg
      exact G g (row_lt h g hg) (by omega) (by omega) (by omega)
  have hW1 : ∀ g, (Value.slice aW n cW).ownBlock = some g → g < w.heap.size ∧ o g = 2 := fun g hg => ⟨row_lt hk.rW g hg, hk.tW g hg⟩
  have hgW : gW ≠ pb := by
    rcases hat6 with h | h
    · have := hW1 _ h
      have := hk.tp
      rintro rfl
      omega
    · have : gW = w4.heap.size + 1 := by simpa using h
      omega
  have hIW : some gI ≠ (Value.slice aW n cW).ownBlock := fun e => by
    have := hW1 _ e.symm
    omega
  refine ⟨ext (ext (ext o w.heap.size 1) w3.heap.size (2 * n + 4)) w4.heap.size 2, u, _, _, ⟨hk.hB, heap_setCell_same _ pb 1 _ _ _ k6, ?_, ?_, ?_, ?_, ?_, ?_, ?_, ?_, ?_⟩, ?_, ?_, ?_⟩
  · rw [hdr_upd]
    refine ownsRow_setCell_other ?_ (by simpa [Value.ownBlock] using hgI) _
    exact (((own_below (w := w3.drewN 1) rI3 hb4).alloc _).kept hg6 (.inr hIW))
  · rw [hdr_upd]
    exact ownsRow_setCell_other hW6 (by simpa [Value.ownBlock] using hgW) _
  · intro i hi
    by_cases h : i < n
    · rw [upd_lt _ _ h, upd_lt _ _ h]
      exact R (hk.rv i h) (hk.tv i h) (by omega)
    · obtain rfl : i = n := by omega
      rw [upd_same, upd_same]
      exact R hl ht (by omega)
  · intro i hi
    by_cases h : i < n
    · rw [upd_lt _ _ h, upd_lt _ _ h]
      exact R (hk.ru i h) (hk.tu i h) (by omega)
    · obtain rfl : i = n := by omega
      rw [upd_same, upd_same]
      have hu0 : ∀ g, u.ownBlock = some g → w3.heap.size ≤ g := fun g hg => row_ge hu g hg
      refine ownsRow_setCell_other ?_ (fun e => by have := hu0 _ e; simp at this; omega) _
      refine ((row_mono hu (B := B) (by simp; omega)).alloc _).kept hg6 ?_
      cases hb : u.ownBlock with
      | none => exact .inl rfl
      | some g =>
        refine .inr fun e => ?_
        have := hu0 g hb
        have := hW1 g e.symm
        omega
  · rw [ext_lt (by omega), ext_lt (by omega), ext_lt hp]
    exact hk.tp
  · intro g hg
    obtain rfl : gI = g := by simpa [Value.ownBlock] using hg
    rw [ext_lt (by omega), ext_lt hlI3]
    rcases hT1 with h | h
    · exact ext_ge (by omega)
    · rw [ext_lt h.1]
      exact h.2
  · intro g hg
    obtain rfl : gW = g := by simpa [Value.ownBlock] using hg
    rcases hat6 with h | h
    · have := hW1 _ h
      rw [ext_lt (by omega), ext_lt (by omega), ext_lt (by omega)]
      exact this.2
    · have : gW = w4.heap.size + 1 := by simpa using h
      exact ext_ge (by omega)
  · intro i hi
    by_cases h : i < n
    · rw [upd_lt _ _ h]
      intro g hg
      have := row_lt (hk.rv i h) g hg
      rw [ext_lt (by omega), ext_lt (by omega), ext_lt (by omega)]
      exact hk.tv i h g hg
    · obtain rfl : i = n := by omega
      rw [upd_same]
      intro g hg
      have := row_lt hl g hg
      rw [ext_lt (by omega), ext_lt (by omega), ext_lt (by omega)]
      exact ht g hg
  · intro i hi
    by_cases h : i < n
    · rw [upd_lt _ _ h]
      intro g hg
      have := row_lt (hk.ru i h) g hg
      rw [ext_lt (by omega), ext_lt (by omega), ext_lt (by omega)]
      exact hk.tu i h g hg
    · obtain rfl : i = n := by omega
      rw [upd_same]
      intro g hg
      have h1 := row_lt hu g hg
      have h2 : w3.heap.size ≤ g := row_ge hu g hg
      rw [ext_lt h1, ext_ge h2]
  · intro k h
    rw [ext_lt (by omega), ext_lt (by omega), ext_lt h]
  · intro k h h3
    exact G k h (by omega) (by omega) (by omega)
  · have h1 : Below B w w4 := below_base (a := w3.drewN 1) (below_drN b3 1) (by simp; omega) hb4
    exact below_set (below_grown (h1.alloc (by omega) _) (by simp; omega) hk.rW hg6) hBw
end Go.Proofs.YtlinolgbpnokcaaGreatDoor.Bk
