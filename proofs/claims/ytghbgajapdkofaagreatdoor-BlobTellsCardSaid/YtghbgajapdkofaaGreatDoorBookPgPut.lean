/- The contract of the book's putPages: each list is marked. -/
import Derived.Test.YtghbgajapdkofaaGreatDoorBookPg
import Derived.RegionTactic
import Derived.Deep.RegionLaw
namespace Go.Proofs.YtghbgajapdkofaaGreatDoor.Bp
open Go.RowKit Go.Proofs.YtghbgajapdkofaaGreatDoor.Mem Go.Proofs.YtghbgajapdkofaaGreatDoor.Bk

theorem pages_set : ∀ (l : List P4) (q : Nat) (p : P4), q < l.length → ((((pages l).set (q * 4) (.int .i64 p.k)).set (q * 4 + 1) (.int .i64 p.d)).set (q * 4 + 2) (.int .i64 p.x)).set (q * 4 + 3) (.string p.s) = pages (l.set q p)
  | [], q, p, h => by simp at h
  | a :: l, 0, p, _ => rfl
  | a :: l, q + 1, p, h => by
    have ih := pages_set l q p (by simpa using h)
    have e : pages (a :: l) = a.cells ++ pages l := rfl
    have e2 : pages ((a :: l).set (q + 1) p) = a.cells ++ pages (l.set q p) := rfl
    have h4 : a.cells.length = 4 := rfl
    have s : ∀ (M : List Value) (c : Nat) (u : Value), (a.cells ++ M).set ((q + 1) * 4 + c) u = a.cells ++ M.set (q * 4 + c) u := fun M c u => by
      rw [List.set_append_right _ _ (by omega), h4, show (q + 1) * 4 + c - 4 = q * 4 + c by omega]
    rw [e, e2, ← ih]
    have s0 := s (pages l) 0 (.int .i64 p.k)
    simp only [Nat.add_zero] at s0
    rw [s0, s, s, s]

/-- The book's lists, of which lists lie in which rows. -/
structure ListsP (B pb n : Nat) (w : World) (o : Nat → Nat) (V : Nat → Value) (Y : Nat → List P4) (vI vW : Value) : Prop where
  hB : B ≤ pb
  blk : w.heap[pb]? = some (.cells (bcp vI vW) 46 (0, 0))
  sl : ∃ A c, vW = .slice A n c
  rI : w.ownsRow B 23 1 vI n (hdr V n)
  rv : ∀ i, i < n → w.ownsRow B 26 4 (V i) (Y i).length (pages (Y i))
  tp : o pb = 0
  tI : Tag o vI 1
  tv : ∀ i, i < n → Tag o (V i) (2 * i + 3)
theorem BookP.lists {B pb n : Nat} {w : World} {o : Nat → Nat} {V U : Nat → Value} {X : Nat → List P4} {vI vW : Value} (hk : BookP B pb n w o V U X vI vW) : ListsP B pb n w o V X vI vW :=
  ⟨hk.hB, hk.blk, own_slice hk.rW, hk.rI, hk.rv, hk.tp, hk.tI, hk.tv⟩
section
variable {B pb n : Nat} {w w' : World} {o : Nat → Nat} {V : Nat → Value} {Y : Nat → List P4} {vI vW : Value}
theorem ListsP.below (hk : ListsP B pb n w o V Y vI vW) (h : Below w.heap.size w w') : ListsP B pb n w' o V Y vI vW :=
  ⟨hk.hB, blk_keep hk.blk h, hk.sl, own_below hk.rI h, fun i hi => own_below (hk.rv i hi) h, hk.tp, hk.tI, hk.tv⟩
theorem ListsP.no (hk : ListsP B pb n w o V Y vI vW) (k : Nat) (h : (bcp vI vW)[k]? = some nl) : No w pb k :=
  ⟨lt_of_block hk.blk, (blk_cell hk.blk k).trans h⟩
theorem ListsP.congr {Z : Nat → List P4} (hk : ListsP B pb n w o V Y vI vW) (h : ∀ i, i < n → Y i = Z i) : ListsP B pb n w o V Z vI vW :=
  ⟨hk.hB, hk.blk, hk.sl, hk.rI, fun i hi => by rw [← h i hi]; exact hk.rv i hi, hk.tp, hk.tI, hk.tv⟩
/-- One page of one list. -/
theorem ListsP.store (hk : ListsP B pb n w o V Y vI vW) {j g cap q : Nat} (hj : j < n) (hv : V j = .slice (some ⟨g, 0, none⟩) (Y j).length cap) (hq : q < (Y j).length) (p : P4) :
    ListsP B pb n ((((w.setCell ⟨g, q * 4, none⟩ (.int .i64 p.k)).setCell ⟨g, q * 4 + 1, none⟩ (.int .i64 p.d)).setCell ⟨g, q * 4 + 2, none⟩ (.int .i64 p.x)).setCell ⟨g, q * 4 + 3, none⟩ (.string p.s)) o V (upd Y j ((Y j).set q p)) vI vW := by
  have hg : o g = 2 * j + 3 := hk.tv j hj g (by rw [hv]; rfl)
  refine ⟨hk.hB, ?_, hk.sl, ?_, fun i hi => ?_, hk.tp, hk.tI, hk.tv⟩
  · have hne : pb ≠ g := fun e => by have := hk.tp; subst e; omega
    rw [heap_setCell_other _ _ _ _ hne, heap_setCell_other _ _ _ _ hne, heap_setCell_other _ _ _ _ hne, heap_setCell_other _ _ _ _ hne]
    exact hk.blk
  · have hne : ∀ c : Nat, vI.ownBlock ≠ some (⟨g, c, none⟩ : Addr).block := fun c e => by have := hk.tI g e; omega
    exact ownsRow_setCell_other (ownsRow_setCell_other (ownsRow_setCell_other (ownsRow_setCell_other hk.rI (hne _) _) (hne _) _) (hne _) _) (hne _) _
  · by_cases h : i = j
    · subst h
      have h1 := hk.rv i hi
      rw [hv] at h1 ⊢
      have h2 := (((((h1.stored (q * 4) (.int .i64 p.k)).1).stored (q * 4 + 1) (.int .i64 p.d)).1.stored (q * 4 + 2) (.int .i64 p.x)).1.stored (q * 4 + 3) (.string p.s)).1
      rw [pages_set _ _ _ hq] at h2
      rw [upd_same, List.length_set]
      exact h2
    · rw [show upd Y j ((Y j).set q p) i = Y i from if_neg h]
      have hne : ∀ c : Nat, (V i).ownBlock ≠ some (⟨g, c, none⟩ : Addr).block := fun c e => by have := hk.tv i hi g e; omega
      exact ownsRow_setCell_other (ownsRow_setCell_other (ownsRow_setCell_other (ownsRow_setCell_other (hk.rv i hi) (hne _) _) (hne _) _) (hne _) _) (hne _) _
end

theorem upd_upd {α : Type} (V : Nat → α) (n : Nat) (a b : α) : upd (upd V n a) n b = upd V n b := by
  funext i
  by_cases h : i = n <;> simp [upd, h]
/-- The lists marked up to j. -/
def zto (X : Nat → List P4) (j : Nat) : Nat → List P4 := fun i => if i < j then mkp i 0 (X i).length else X i
theorem zto_len (X : Nat → List P4) (j i : Nat) : (zto X j i).length = (X i).length := by unfold zto; split <;> simp [mkp_len]
theorem zto_self (X : Nat → List P4) (j : Nat) : zto X j j = X j := if_neg (by omega)
/-- List j marked up to k. -/
def part (X : Nat → List P4) (j k : Nat) : List P4 := mkp j 0 k ++ (X j).drop k
theorem part_zero (X : Nat → List P4) (j : Nat) : upd (zto X j) j (part X j 0) = zto X j := by
  funext i
  by_cases h : i = j
  · subst h
    rw [upd_same, zto_self]
    simp [part, mkp_zero]
  · exact if_neg h
theorem part_all (X : Nat → List P4) (j : Nat) : upd (zto X j) j (part X j (X j).length) = zto X (j + 1) := by
  funext i
  by_cases h : i = j
  · subst h
    rw [upd_same]
    unfold zto part
    rw [if_pos (by omega), List.drop_length, List.append_nil]
  · rw [show upd (zto X j) j (part X j (X j).length) i = zto X j i from if_neg h]
    unfold zto
    by_cases h1 : i < j
    · rw [if_pos h1, if_pos (by omega)]
    · rw [if_neg h1, if_neg (by omega)]
theorem part_len (X : Nat → List P4) (j k : Nat) (h : k ≤ (X j).length) : (part X j k).length = (X j).length := by simp [part, mkp_len]; omega
theorem part_set (X : Nat → List P4) (j k : Nat) (h : k < (X j).length) : (part X j k).set k ⟨0, -1000 * (j : Int) - ((0 + k : Nat) : Int) - 1, 0, ⟨#[]⟩⟩ = part X j (k + 1) := by
  unfold part
  rw [List.set_append_right _ _ (by rw [mkp_len]; exact Nat.le_refl _), mkp_len, Nat.sub_self, mkp_succ, List.append_assoc]
  congr 1
  rw [List.drop_eq_getElem_cons h]
  rfl

set_option maxRecDepth 100000 in
set_option maxHeartbeats 4000000 in
theorem put_any {B pb n : Nat} {w : World} {o : Nat → Nat} {V : Nat → Value} {X : Nat → List P4} {vI vW : Value} (hk : ListsP B pb n w o V X vI vW) (hBw : B ≤ w.heap.size) (hn : n ≤ 250) (hX : ∀ i, i < n → (X i).length ≤ 1000000) :
    Calls Tryz.prog 41 #[.pointer (some ⟨pb, 0, none⟩)] w fun e w' => e = .returned (.tuple #[]) ∧ ListsP B pb n w' o V (fun i => mkp i 0 (X i).length) vI vW ∧ Below B w w' ∧ (∀ k, k < w.heap.size → (o k ≤ 2 ∨ 2 * n + 3 ≤ o k) → w'.heap[k]? = w.heap[k]?) := by
  have Hk := Lib.hid hk
  clear hk
  go_enter Tryz.func41, Tryz.ntmps41
  go_wp2
  go_loopw [2] (fun i wr => ∃ j : Nat, i = .int .i64 j ∧ j ≤ n ∧ Hid (ListsP B pb n wr o V (zto X j) vI vW) ∧ Below B w wr ∧ Hid (∀ k, k < w.heap.size → (o k ≤ 2 ∨ 2 * n + 3 ≤ o k) → wr.heap[k]? = w.heap[k]?)) (fun i _ => n - (intOf i).toNat)
  case atStart => exact ⟨0, rfl, by omega, Lib.hid (Hk.out.congr fun i _ => (if_neg (by omega)).symm), Below.refl _ _, Lib.hid fun _ _ _ => rfl⟩
  case round =>
    obtain ⟨j, rfl, hj, HL, hbel, Hfr⟩ := hrel
    have hk := HL.out
    have c1 := blk_cell hk.blk
    have z1 := lt_of_block hk.blk
    obtain ⟨aI, cI, hvI⟩ := own_slice hk.rI
    obtain ⟨aW, cW, hvW⟩ := hk.sl
    have rI := hk.rI
    by_cases hlt : j < n
    · obtain ⟨gI, cI', hI', _, hgI⟩ := rI.form (by omega)
      rw [hI'] at c1 rI
      rw [hvW] at c1
      have d1 := hdr_at rI j hlt
      have rj := hk.rv j hlt
      rw [zto_self] at rj
      have hV0 := row_lt rj
      obtain ⟨A1, k1, e1, x1⟩ := row_rp rj
      rw [e1] at d1
      have hXj := hX j hlt
      have i1 : IntKind.i64.wrap ((j : Int) + 1) = (j : Int) + 1 := IntWalk.i64_in _ (by omega)
      have hmk := Lib.hid (markp_any j 0 (X j).length)
      clear hk rI hvI rj
      go_wp2_with fail
      refine (hmk.out _ (by omega) (by omega)).mono ?_
      rintro e w3 ⟨vm, rfl, hm, hb3⟩
      have L3 := Lib.hid (HL.out.below hb3)
      have b3 := below_base hbel (Nat.le_trans hBw hbel.size) hb3
      have F3 := Lib.hid (fun k h1 h2 => (hb3.block k (Nat.lt_of_lt_of_le h1 hbel.size)).trans (Hfr.out k h1 h2))
      have sz3 : w.heap.size ≤ wr.heap.size := hbel.size
      obtain ⟨Am, cm, rfl⟩ := own_slice hm
      clear c1 z1 d1 x1 HL hbel Hfr hb3 hgI
      go_wp2
      go_loopw [4] (fun k wi => ∃ q : Nat, k = .int .i64 q ∧ q ≤ (X j).length ∧ Hid (ListsP B pb n wi o V (upd (zto X j) j (part X j q)) vI vW) ∧ wi.ownsRow wr.heap.size 26 4 (.slice Am (X j).length cm) (X j).length (pages (mkp j 0 (X j).length)) ∧ Below B w wi ∧ Hid (∀ k, k < w.heap.size → (o k ≤ 2 ∨ 2 * n + 3 ≤ o k) → wi.heap[k]? = w.heap[k]?)) (fun k _ => (X j).length - (intOf k).toNat)
      case atStart => exact ⟨0, rfl, by omega, Lib.hid (by rw [part_zero]; exact L3.out), hm, b3, F3⟩
      case round =>
        clear L3 b3 F3 hm
        obtain ⟨q, rfl, hq, L4, hm, b4, F4⟩ := hrel
        have hk := L4.out
        have c1 := blk_cell hk.blk
        have z1 := lt_of_block hk.blk
        have rI := hk.rI
        rw [hI'] at c1 rI
        rw [hvW] at c1
        have d1 := hdr_at rI j hlt
        rw [e1] at d1
        have rIl := rI.lt gI rfl
        by_cases hql : q < (X j).length
        · have rj := hk.rv j hlt
          rw [upd_same] at rj
          have hjf := rj.form (by rw [part_len _ _ _ hq]; omega)
          obtain ⟨gV, cV, hV, hVB, hVl⟩ := hjf
          rw [part_len _ _ _ hq] at hV
          rw [e1] at hV
          injection hV with e2 _ e3
          subst e2
          subst e3
          obtain ⟨gm, cm', hMm, hmB, hml⟩ := hm.form (by omega)
          injection hMm with e4 _ e5
          subst e4
          subst e5
          obtain ⟨y, hy⟩ : ∃ y : Int, y = -1000 * (j : Int) - ((0 + q : Nat) : Int) - 1 := ⟨_, rfl⟩
          have hmq : (mkp j 0 (X j).length)[q]? = some ⟨0, y, 0, ⟨#[]⟩⟩ := by rw [hy]; exact mkp_get j 0 (X j).length q hql
          have mm := fun (c : Nat) (u : Value) (hc : c < 4) (hu : (P4.cells ⟨0, y, 0, ⟨#[]⟩⟩)[c]? = some u) => own_at hm (q * 4 + c) u ((pages_at _ q c _ hmq hc).trans hu)
          have m0 := mm 0 _ (by omega) rfl
          have m1 := mm 1 _ (by omega) rfl
          have m2 := mm 2 _ (by omega) rfl
          have m3 := mm 3 _ (by omega) rfl
          have hVo : o gV = 2 * j + 3 := hk.tv j hlt gV (by rw [e1]; rfl)
          have hVm : gV ≠ gm := by have := hV0 gV (by rw [e1]; rfl); omega
          have hst := Lib.hid (ListsP.store (q := q) hk hlt (by rw [upd_same, part_len _ _ _ hq]; exact e1) (by rw [upd_same, part_len _ _ _ hq]; exact hql) ⟨0, y, 0, ⟨#[]⟩⟩)
          rw [e1] at rj
          obtain ⟨p0, hp0⟩ : ∃ p0, (part X j q)[q]? = some p0 := ⟨_, List.getElem?_eq_getElem (by rw [part_len _ _ _ hq]; exact hql)⟩
          have vv := fun (c : Nat) (u : Value) (hc : c < 4) (hu : p0.cells[c]? = some u) => own_at rj (q * 4 + c) u ((pages_at _ q c _ hp0 hc).trans hu)
          have v0 := vv 0 _ (by omega) rfl
          have v1 := vv 1 _ (by omega) rfl
          have v2 := vv 2 _ (by omega) rfl
          have v3 := vv 3 _ (by omega) rfl
          simp only [Nat.add_zero] at m0 v0
          have v1f := own_free rj
          have i2 : IntKind.i64.wrap ((q : Int) + 1) = (q : Int) + 1 := IntWalk.i64_in _ (by omega)
          obtain ⟨w5, hw5⟩ : ∃ w5, w5 = ((((wr.setCell ⟨gV, q * 4, none⟩ (.int .i64 0)).setCell ⟨gV, q * 4 + 1, none⟩ (.int .i64 y)).setCell ⟨gV, q * 4 + 2, none⟩ (.int .i64 0)).setCell ⟨gV, q * 4 + 3, none⟩ (.string ⟨#[]⟩)) := ⟨_, rfl⟩
          have hne : ∀ (c : Nat), (Value.slice (some ⟨gm, 0, none⟩) (X j).length cm).ownBlock ≠ some (⟨gV, c, none⟩ : Addr).block := fun c e => hVm (by simpa [Value.ownBlock] using e.symm)
          have hm4 : Hid (w5.ownsRow _ _ _ _ _ _) := Lib.hid (by rw [hw5]; exact ownsRow_setCell_other (ownsRow_setCell_other (ownsRow_setCell_other (ownsRow_setCell_other hm (hne _) _) (hne _) _) (hne _) _) (hne _) _)
          have b5 : Hid (Below B w w5) := Lib.hid (by rw [hw5]; exact below_set (below_set (below_set (below_set b4 hVB) hVB) hVB) hVB)
          have F5 : Hid (∀ k, k < w.heap.size → (o k ≤ 2 ∨ 2 * n + 3 ≤ o k) → w5.heap[k]? = w.heap[k]?) := Lib.hid fun k h1 h2 => by
            have hn5 : k ≠ gV := fun e => by subst e; omega
            rw [hw5, heap_setCell_other _ _ _ _ hn5, heap_setCell_other _ _ _ _ hn5, heap_setCell_other _ _ _ _ hn5, heap_setCell_other _ _ _ _ hn5]
            exact F4.out k h1 h2
          have L5 : Hid (ListsP B pb n w5 o V (upd (zto X j) j (part X j (q + 1))) vI vW) := Lib.hid (by
            have h := hst.out
            rw [upd_upd, upd_same] at h
            rw [hw5, ← part_set X j q hql, ← hy]
            exact h)
          have Hw5 := Lib.hid hw5
          clear hk rI rj hst hm L4 F4 b4 hy hmq mm vv hp0 hne hw5
          go_wp2
          go_region_law fail
          all_goals go_wp2
          all_goals obtain rfl := Hw5.out
          all_goals exact ⟨⟨q + 1, by simp, by omega, Lib.hid (L5.out.below (below_dr (Below.refl _ _))), hm4.out, below_dr b5.out, F5⟩, by simp only [intOf]; omega⟩
        · obtain rfl : q = (X j).length := by omega
          rw [part_all] at L4
          clear hk
          go_wp2
          case roundEnd => exact ⟨⟨j + 1, by simp, by omega, L4, b4, F4⟩, by simp only [intOf]; omega⟩
    · obtain rfl : j = n := by omega
      rw [hvI, hvW] at c1
      have h2 := hk.congr (Z := fun i => mkp i 0 (X i).length) fun i hi => if_pos hi
      have H2 := Lib.hid h2
      clear hk rI h2
      go_wp2
      go_end0
      exact ⟨rfl, H2.out, hbel, Hfr.out⟩
end Go.Proofs.YtghbgajapdkofaaGreatDoor.Bp
