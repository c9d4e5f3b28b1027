/- The contract of the book's putInts: each list is marked. -/
import Derived.Test.YtlinolgbpnokcaaGreatDoorBookOthers
namespace Go.Proofs.YtlinolgbpnokcaaGreatDoor.Bk
open Go.RowKit Go.Proofs.YtlinolgbpnokcaaGreatDoor.Mem

/-- The book's lists, of which lists lie in which rows. -/
structure Lists (B pb n : Nat) (w : World) (o : Nat → Nat) (V : Nat → Value) (Y : Nat → List Int) (vI vW : Value) : Prop where
  hB : B ≤ pb
  blk : w.heap[pb]? = some (.cells (bcs vI vW) 41 (0, 0))
  sl : ∃ A c, vW = .slice A n c
  rI : w.ownsRow B 29 1 vI n (hdr V n)
  rv : ∀ i, i < n → w.ownsRow B 3 1 (V i) (Y i).length (ints (Y i))
  tp : o pb = 0
  tI : Tag o vI 1
  tv : ∀ i, i < n → Tag o (V i) (2 * i + 3)
theorem Book.lists {B pb n : Nat} {w : World} {o : Nat → Nat} {V U : Nat → Value} {X : Nat → List Int} {vI vW : Value} (hk : Book B pb n w o V U X vI vW) : Lists B pb n w o V X vI vW :=
  ⟨hk.hB, hk.blk, own_slice hk.rW, hk.rI, hk.rv, hk.tp, hk.tI, hk.tv⟩
section
variable {B pb n : Nat} {w w' : World} {o : Nat → Nat} {V : Nat → Value} {Y : Nat → List Int} {vI vW : Value}
theorem Lists.below (hk : Lists B pb n w o V Y vI vW) (h : Below w.heap.size w w') : Lists B pb n w' o V Y vI vW :=
  ⟨hk.hB, blk_keep hk.blk h, hk.sl, own_below hk.rI h, fun i hi => own_below (hk.rv i hi) h, hk.tp, hk.tI, hk.tv⟩
theorem Lists.at (hk : Lists B pb n w o V Y vI vW) : At w pb := by
  obtain ⟨A, c, rfl⟩ := own_slice hk.rI
  obtain ⟨A', c', rfl⟩ := hk.sl
  exact ⟨(A, n, c), (A', n, c'), hk.blk⟩
theorem Lists.congr {Z : Nat → List Int} (hk : Lists B pb n w o V Y vI vW) (h : ∀ i, i < n → Y i = Z i) : Lists B pb n w o V Z vI vW :=
  ⟨hk.hB, hk.blk, hk.sl, hk.rI, fun i hi => by rw [← h i hi]; exact hk.rv i hi, hk.tp, hk.tI, hk.tv⟩
/-- One cell of one list. -/
theorem Lists.store (hk : Lists B pb n w o V Y vI vW) {j g cap k : Nat} (hj : j < n) (hv : V j = .slice (some ⟨g, 0, none⟩) (Y j).length cap) (y : Int) :
    Lists B pb n (w.setCell ⟨g, k, none⟩ (.int .i64 y)) o V (upd Y j ((Y j).set k y)) vI vW := by
  have hg : o g = 2 * j + 3 := hk.tv j hj g (by rw [hv]; rfl)
  refine ⟨hk.hB, ?_, hk.sl, ?_, fun i hi => ?_, hk.tp, hk.tI, hk.tv⟩
  · rw [heap_setCell_other _ _ _ _ (fun e => by have := hk.tp; subst e; omega)]
    exact hk.blk
  · exact ownsRow_setCell_other hk.rI (fun e => by have := hk.tI g e; omega) _
  · by_cases h : i = j
    · subst h
      have h1 := hk.rv i hi
      rw [hv] at h1 ⊢
      have h2 := (h1.stored k (.int .i64 y)).1
      rw [upd_same, List.length_set]
      rw [show (ints (Y i)).set k (.int .i64 y) = ints ((Y i).set k y) by simp [ints, List.map_set]] at h2
      exact h2
    · rw [show upd Y j ((Y j).set k y) i = Y i from if_neg h]
      exact ownsRow_setCell_other (hk.rv i hi) (fun e => by have := hk.tv i hi g e; omega) _
end

theorem upd_upd {α : Type} (V : Nat → α) (n : Nat) (a b : α) : upd (upd V n a) n b = upd V n b := by
  funext i
  by_cases h : i = n <;> simp [upd, h]
/-- The lists marked up to j. -/
def zto (X : Nat → List Int) (j : Nat) : Nat → List Int := fun i => if i < j then mks i 0 (X i).length else X i
theorem zto_len (X : Nat → List Int) (j i : Nat) : (zto X j i).length = (X i).length := by unfold zto; split <;> simp [mks_len]
theorem zto_self (X : Nat → List Int) (j : Nat) : zto X j j = X j := if_neg (by omega)
/-- List j marked up to k. -/
def part (X : Nat → List Int) (j k : Nat) : List Int := mks j 0 k ++ (X j).drop k
theorem part_zero (X : Nat → List Int) (j : Nat) : upd (zto X j) j (part X j 0) = zto X j := by
  funext i
  by_cases h : i = j
  · subst h
    rw [upd_same, zto_self]
    simp [part, mks_zero]
  · exact if_neg h
theorem part_all (X : Nat → List Int) (j : Nat) : upd (zto X j) j (part X j (X j).length) = zto X (j + 1) := by
  funext i
  by_cases h : i = j
  · subst h
    rw [upd_same]
    unfold zto part
    rw [if_pos (by omega), List.drop_length, List.append_nil]
  · rw [show upd (zto X j) j (part X j (X j).length) i = zto X j i from if_neg h]
    unfold zto
    by_cases h1 : i < j
    · rw [if_pos h1, if_pos (by omega)]
    · rw [if_neg h1, if_neg (by omega)]
theorem part_len (X : Nat → List Int) (j k : Nat) (h : k ≤ (X j).length) : (part X j k).length = (X j).length := by simp [part, mks_len]; omega
theorem part_set (X : Nat → List Int) (j k : Nat) (h : k < (X j).length) : (part X j k).set k (-1000000 * (j : Int) - ((0 + k : Nat) : Int) - 7) = part X j (k + 1) := by
  unfold part
  rw [List.set_append_right _ _ (by rw [mks_len]; exact Nat.le_refl _), mks_len, Nat.sub_self, mks_succ, List.append_assoc]
  congr 1
  rw [List.drop_eq_getElem_cons h]
  rfl

set_option maxRecDepth 100000 in
set_option maxHeartbeats 4000000 in
theorem put_any {B pb n : Nat} {w : World} {o : Nat → Nat} {V : Nat → Value} {X : Nat → List Int} {vI vW : Value} (hk : Lists B pb n w o V X vI vW) (hBw : B ≤ w.heap.size) (hn : n ≤ 250) (hX : ∀ i, i < n → (X i).length ≤ 1000000) :
    Calls Tryz.prog 38 #[.pointer (some ⟨pb, 0, none⟩)] w fun e w' => e = .returned (.tuple #[]) ∧ Lists B pb n w' o V (fun i => mks i 0 (X i).length) vI vW ∧ Below B w w' ∧ (∀ k, k < w.heap.size → (o k ≤ 2 ∨ 2 * n + 3 ≤ o k) → w'.heap[k]? = w.heap[k]?) := by
  have Hk := Lib.hid hk
  clear hk
  go_enter Tryz.func38, Tryz.ntmps38
  go_wp2
  go_loopw [2] (fun i wr => ∃ j : Nat, i = .int .i64 j ∧ j ≤ n ∧ Hid (Lists B pb n wr o V (zto X j) vI vW) ∧ Below B w wr ∧ Hid (∀ k, k < w.heap.size → (o k ≤ 2 ∨ 2 * n + 3 ≤ o k) → wr.heap[k]? = w.heap[k]?)) (fun i _ => n - (intOf i).toNat)
  case atStart => exact ⟨0, rfl, by omega, Lib.hid (Hk.out.congr fun i _ => (if_neg (by omega)).symm), Below.refl _ _, Lib.hid fun _ _ _ => rfl⟩
  case round =>
    obtain ⟨j, rfl, hj, HL, hbel, Hfr⟩ := hrel
    have hk := HL.out
    have c1 := blk_cell hk.blk
    have z1 := lt_of_block hk.blk
    obtain ⟨aI, cI, hvI⟩ := own_slice hk.rI
    obtain ⟨aW, cW, hvW⟩ := hk.sl
    have rI := hk.rI
    by_cases hlt : j < n
    · obtain ⟨gI, cI', hI', _, hgI⟩ := rI.form (by omega)
      rw [hI'] at c1 rI
      rw [hvW] at c1
      have d1 := hdr_at rI j hlt
      have rj := hk.rv j hlt
      rw [zto_self] at rj
      have hV0 := row_lt rj
      obtain ⟨A1, k1, e1, x1⟩ := row_ints rj
      rw [e1] at d1
      have hXj := hX j hlt
      have i1 : IntKind.i64.wrap ((j : Int) + 1) = (j : Int) + 1 := IntWalk.i64_in _ (by omega)
      have hmk := Lib.hid (mark_any j 0 (X j).length)
      clear hk rI hvI rj
      go_wp2_with fail
      refine (hmk.out _ (by omega) (by omega)).mono ?_
      rintro e w3 ⟨vm, rfl, hm, hb3⟩
      have L3 := Lib.hid (HL.out.below hb3)
      have b3 := below_base hbel (Nat.le_trans hBw hbel.size) hb3
      have F3 := Lib.hid (fun k h1 h2 => (hb3.block k (Nat.lt_of_lt_of_le h1 hbel.size)).trans (Hfr.out k h1 h2))
      have sz3 : w.heap.size ≤ wr.heap.size := hbel.size
      obtain ⟨Am, cm, rfl⟩ := own_slice hm
      clear c1 z1 d1 x1 HL hbel Hfr hb3 hgI
      go_wp2
      go_loopw [4] (fun k wi => ∃ q : Nat, k = .int .i64 q ∧ q ≤ (X j).length ∧ Hid (Lists B pb n wi o V (upd (zto X j) j (part X j q)) vI vW) ∧ wi.ownsRow wr.heap.size 3 1 (.slice Am (X j).length cm) (X j).length (ints (mks j 0 (X j).length)) ∧ Below B w wi ∧ Hid (∀ k, k < w.heap.size → (o k ≤ 2 ∨ 2 * n + 3 ≤ o k) → wi.heap[k]? = w.heap[k]?)) (fun k _ => (X j).length - (intOf k).toNat)
      case atStart => exact ⟨0, rfl, by omega, Lib.hid (by rw [part_zero]; exact L3.out), hm, b3, F3⟩
      case round =>
        clear L3 b3 F3 hm
        obtain ⟨q, rfl, hq, L4, hm, b4, F4⟩ := hrel
        have hk := L4.out
        have c1 := blk_cell hk.blk
        have z1 := lt_of_block hk.blk
        have rI := hk.rI
        rw [hI'] at c1 rI
        rw [hvW] at c1
        have d1 := hdr_at rI j hlt
        rw [e1] at d1
        have rIl := rI.lt gI rfl
        by_cases hql : q < (X j).length
        · have rj := hk.rv j hlt
          rw [upd_same] at rj
          have hjf := rj.form (by rw [part_len _ _ _ hq]; omega)
          obtain ⟨gV, cV, hV, hVB, hVl⟩ := hjf
          rw [part_len _ _ _ hq] at hV
          rw [e1] at hV
          injection hV with e2 _ e3
          subst e2
          subst e3
          obtain ⟨gm, cm', hMm, hmB, hml⟩ := hm.form (by omega)
          injection hMm with e4 _ e5
          subst e4
          subst e5
          obtain ⟨y, hy⟩ : ∃ y, y = -1000000 * (j : Int) - ((0 + q : Nat) : Int) - 7 := ⟨_, rfl⟩
          have m1 := own_at hm q (.int .i64 y) (by rw [hy, ← mks_get j 0 (X j).length q hql]; simp [ints, List.getD_eq_getElem?_getD, mks_len, hql])
          have hVo : o gV = 2 * j + 3 := hk.tv j hlt gV (by rw [e1]; rfl)
          have hVm : gV ≠ gm := by have := hV0 gV (by rw [e1]; rfl); omega
          have hst := Lib.hid (Lists.store (k := q) hk hlt (by rw [upd_same, part_len _ _ _ hq]; exact e1) y)
          rw [e1] at rj
          have v1 := own_at rj q (.int .i64 ((part X j q).getD q 0)) (by simp [ints, List.getD_eq_getElem?_getD, part_len _ _ _ hq, hql])
          have v1f := own_free rj q
          have i2 : IntKind.i64.wrap ((q : Int) + 1) = (q : Int) + 1 := IntWalk.i64_in _ (by omega)
          have hm4 := Lib.hid (ownsRow_setCell_other hm (a := ⟨gV, q, none⟩) (fun e => hVm (by simpa [Value.ownBlock] using e.symm)) (.int .i64 y))
          have b5 := Lib.hid (below_set (j := q) (u := .int .i64 y) b4 hVB)
          have F5 : Hid (∀ k, k < w.heap.size → (o k ≤ 2 ∨ 2 * n + 3 ≤ o k) → (wr.setCell ⟨gV, q, none⟩ (.int .i64 y)).heap[k]? = w.heap[k]?) := Lib.hid fun k h1 h2 => by
            rw [heap_setCell_other _ _ _ _ (fun e => by subst e; omega)]
            exact F4.out k h1 h2
          have L5 : Hid (Lists B pb n (wr.setCell ⟨gV, q, none⟩ (.int .i64 y)) o V (upd (zto X j) j (part X j (q + 1))) vI vW) := Lib.hid (by
            have h := hst.out
            rw [upd_upd, upd_same, hy, part_set X j q hql] at h
            rw [hy]
            exact h)
          have Hy := Lib.hid hy
          clear hk rI rj hst hm L4 F4 b4 hy
          go_wp2
          go_region_law fail
          all_goals go_wp2
          all_goals exact ⟨⟨q + 1, by simp, by omega, Lib.hid (L5.out.below (below_dr (Below.refl _ _))), hm4.out, below_dr b5.out, F5⟩, by simp only [intOf]; omega⟩
        · obtain rfl : q = (X j).length := by omega
          rw [part_all] at L4
          clear hk
          go_wp2
          case roundEnd => exact ⟨⟨j + 1, by simp, by omega, L4, b4, F4⟩, by simp only [intOf]; omega⟩
    · obtain rfl : j = n := by omega
      rw [hvI, hvW] at c1
      have h2 := hk.congr (Z := fun i => mks i 0 (X i).length) fun i hi => if_pos hi
      have H2 := Lib.hid h2
      clear hk rI h2
      go_wp2
      go_end0
      exact ⟨rfl, H2.out, hbel, Hfr.out⟩
end Go.Proofs.YtlinolgbpnokcaaGreatDoor.Bk
