/- The book of lists of pages: what holds of it; the contract of its stillPages. -/
import Derived.Test.YtghbgajapdkofaaGreatDoorBookNone
import Derived.StillTailTactics
namespace Go.Proofs.YtghbgajapdkofaaGreatDoor.Bp
open Go.RowKit Go.Proofs.YtghbgajapdkofaaGreatDoor.Mem Go.Proofs.YtghbgajapdkofaaGreatDoor.Bk

/-- The book's cells: lists of pages, and copies. -/
abbrev bcp (a b : Value) : Array Value := #[nl, nl, nl, nl, nl, nl, a, b, nl, nl, nl, nl, nl, nl, nl, nl, nl, nl]
/-- The book, of n lists V, their copies U, what is in them X; o says whose a block is. -/
structure BookP (B pb n : Nat) (w : World) (o : Nat → Nat) (V U : Nat → Value) (X : Nat → List P4) (vI vW : Value) : Prop where
  hB : B ≤ pb
  blk : w.heap[pb]? = some (.cells (bcp vI vW) 46 (0, 0))
  rI : w.ownsRow B 23 1 vI n (hdr V n)
  rW : w.ownsRow B 23 1 vW n (hdr U n)
  rv : ∀ i, i < n → w.ownsRow B 26 4 (V i) (X i).length (pages (X i))
  ru : ∀ i, i < n → w.ownsRow B 26 4 (U i) (X i).length (pages (X i))
  tp : o pb = 0
  tI : Tag o vI 1
  tW : Tag o vW 2
  tv : ∀ i, i < n → Tag o (V i) (2 * i + 3)
  tu : ∀ i, i < n → Tag o (U i) (2 * i + 4)
theorem BookP.below {B pb n : Nat} {w w' : World} {o : Nat → Nat} {V U : Nat → Value} {X : Nat → List P4} {vI vW : Value} (hk : BookP B pb n w o V U X vI vW) (h : Below w.heap.size w w') : BookP B pb n w' o V U X vI vW :=
  ⟨hk.hB, blk_keep hk.blk h, own_below hk.rI h, own_below hk.rW h, fun i hi => own_below (hk.rv i hi) h, fun i hi => own_below (hk.ru i hi) h, hk.tp, hk.tI, hk.tW, hk.tv, hk.tu⟩
theorem BookP.no {B pb n : Nat} {w : World} {o : Nat → Nat} {V U : Nat → Value} {X : Nat → List P4} {vI vW : Value} (hk : BookP B pb n w o V U X vI vW) (k : Nat) (h : (bcp vI vW)[k]? = some nl) : No w pb k :=
  ⟨lt_of_block hk.blk, (blk_cell hk.blk k).trans h⟩
/-- A row of pages as it is read. -/
theorem row_rp {w : World} {base : Nat} {e : TypeId} {v : Value} {l : List P4} (h : w.ownsRow base e 4 v l.length (pages l)) : ∃ A c, v = .slice A l.length c ∧ Rp w A l := by
  rcases h.2 with ⟨h1, h2⟩ | ⟨g, cap, cur, h1, _, h3, h4, h5, _⟩
  · exact ⟨none, 0, by rw [h1, h2], by rw [h2]; simp, fun h => absurd h (by omega)⟩
  · subst h1
    refine ⟨_, cap, rfl, by simp only [maxLen] at h5; omega, fun _ => ⟨g, 0, rfl, lt_of_block h3, fun i p hp j hj => ?_⟩⟩
    have h6 := pages_at l i j p hp hj
    have h7 : ∃ u, p.cells[j]? = some u := by
      rw [List.getElem?_eq_getElem (by simpa [P4.cells] using hj)]
      exact ⟨_, rfl⟩
    obtain ⟨u, hu⟩ := h7
    rw [hu, Nat.zero_add]
    exact own_at h _ u (h6.trans hu)

set_option maxRecDepth 100000 in
set_option maxHeartbeats 1000000 in
theorem still_any {B pb n : Nat} {w : World} {o : Nat → Nat} {V U : Nat → Value} {X : Nat → List P4} {vI vW : Value} (hk : BookP B pb n w o V U X vI vW) (hn : n ≤ 250) :
    Calls Tryz.prog 31 #[.pointer (some ⟨pb, 0, none⟩)] w fun e w' => e = .returned (.bool true) ∧ Below w.heap.size w w' := by
  have Hk := Lib.hid hk
  clear hk
  go_enter Tryz.func31, Tryz.ntmps31
  go_wp2
  go_loopw [3] (fun i wr => ∃ j : Nat, i = .int .i64 j ∧ j ≤ n ∧ Below w.heap.size w wr) (fun i _ => n - (intOf i).toNat)
  case atStart => exact ⟨0, rfl, by omega, Below.refl _ _⟩
  case round =>
    obtain ⟨j, rfl, hj, hbel⟩ := hrel
    have hk := Hk.out.below hbel
    have c1 := blk_cell hk.blk
    have z1 := lt_of_block hk.blk
    obtain ⟨aI, cI, hvI⟩ := own_slice hk.rI
    obtain ⟨aW, cW, hvW⟩ := own_slice hk.rW
    have rI := hk.rI
    have rW := hk.rW
    by_cases hlt : j < n
    · obtain ⟨gI, cI', hI', _, hgI⟩ := rI.form (by omega)
      obtain ⟨gW, cW', hW', _, hgW⟩ := rW.form (by omega)
      rw [hI'] at c1 rI
      rw [hW'] at c1 rW
      have d1 := hdr_at rI j hlt
      have d2 := hdr_at rW j hlt
      obtain ⟨A1, k1, e1, x1⟩ := row_rp (hk.rv j hlt)
      obtain ⟨A2, k2, e2, x2⟩ := row_rp (hk.ru j hlt)
      rw [e1] at d1
      rw [e2] at d2
      have i1 : IntKind.i64.wrap ((j : Int) + 1) = (j : Int) + 1 := IntWalk.i64_in _ (by omega)
      clear hk rI rW hvI hvW
      go_wp2
      have y1 := x1.below (below_dr (Below.refl _ wr))
      have y2 := x2.below (below_dr (Below.refl _ wr))
      have hb2 := below_dr hbel
      go_still_tail 14, (by kernel_rfl)
      change wpList _ _ _ _ _ wr.drew
      generalize wr.drew = w2 at *
      go_wp2_with fail
      refine (samePages_yes _ _ _ _ _ _ y1 y2).mono ?_
      rintro e w3 ⟨rfl, hb3⟩
      have b3 := below_base hb2 hb2.size hb3
      go_wp2
      go_roundw
      case rel => exact ⟨j + 1, by go_num, by omega, b3⟩
      case measure => simp [intOf]; omega
    · obtain rfl : j = n := by omega
      rw [hvI, hvW] at c1
      clear hk rI rW
      go_wp2
      go_ret
      exact ⟨rfl, hbel⟩
end Go.Proofs.YtghbgajapdkofaaGreatDoor.Bp
