/- The contract of dir's Double. -/
import Derived.Test.YtlinolgbpnokcaaGreatDoorDirConcat
namespace Go.Proofs.YtlinolgbpnokcaaGreatDoor.Dr
open Go.RowKit Go.Proofs.YtlinolgbpnokcaaGreatDoor.Mem Go.Proofs.YtlinolgbpnokcaaGreatDoor.Pg

theorem IsDir.le16 {k d : Int} {l : List UInt8} {n : Nat} (h : IsDir k d l n) (h4 : d < 5) : 2 * n ≤ 32 := by
  have h1 := h.lo
  have h3 := h.size
  obtain ⟨m, rfl⟩ := Int.eq_ofNat_of_zero_le h1
  have : m ≤ 4 := by omega
  match m, this with
  | 0, _ | 1, _ | 2, _ | 3, _ | 4, _ => simp at h3; omega
def DoublePost (w : World) (k d x : Int) (l : List UInt8) (e : Ending) (w' : World) : Prop :=
  (((∀ n, ¬ IsDir k d l n) ∧ e = .returned (.tuple #[.agg #[.int .i64 0, .int .i64 0, .int .i64 0, .string ⟨#[]⟩], .int .i64 2])) ∨
   (∃ n, IsDir k d l n ∧ d = 5 ∧ e = .returned (.tuple #[.agg #[.int .i64 0, .int .i64 0, .int .i64 0, .string ⟨#[]⟩], .int .i64 13])) ∨
   (∃ n, IsDir k d l n ∧ d < 5 ∧ e = .returned (.tuple #[.agg #[.int .i64 k, .int .i64 (d + 1), .int .i64 x, .string (str (bodyOf (ents l n ++ ents l n)))], .int .i64 0]))) ∧ Below w.heap.size w w'

set_option maxRecDepth 100000 in
set_option maxHeartbeats 4000000 in
theorem double_any (k d x : Int) (l : List UInt8) (w : World) :
    Calls Tryz.prog 8 #[.agg #[.int .i64 k, .int .i64 d, .int .i64 x, .string (str l)]] w (DoublePost w k d x l) := by
  have hof := fun w => of_any k d x l w
  generalize str l = S at *
  go_enter Tryz.func8, Tryz.ntmps8
  go_wp2_with fail
  with_reducible refine (hof _).mono ?_
  clear hof
  rintro e w1 (⟨n, g, cap, hd, rfl, hown, hgl, hgb, hb⟩ | ⟨hno, rfl, hb⟩)
  · have Hd := Lib.hid hd
    have hpb := (blk2_below hb).1
    have hrb := (blk2_below hb).2
    have hbw := below_box (below_box hb)
    have hcp := blk_cell hpb
    have hlp := lt_of_block hpb
    have hcr := blk_cell hrb
    have hfr := blk_free hrb
    have hlr := lt_of_block hrb
    have hd5 : d ≤ 5 := hd.hi
    have hd0 : 0 ≤ d := hd.lo
    by_cases hd4 : d = 5
    · subst hd4
      clear hd hown
      go_wp2
      have hW : (((set4 w1 (w.heap.size + 1) (.int .i64 0) (.int .i64 0) (.int .i64 0) (.string ⟨#[]⟩)).alloc (.cells #[.slice (some ⟨g, 0, none⟩) n cap, .int .i64 0] 59))).heap[w.heap.size + 1]? = some (.cells #[.int .i64 0, .int .i64 0, .int .i64 0, .string ⟨#[]⟩] 23 (0, 0)) := hal (set4_same hrb _ _ _ _)
      have hB : Below w.heap.size w (((set4 w1 (w.heap.size + 1) (.int .i64 0) (.int .i64 0) (.int .i64 0) (.string ⟨#[]⟩)).alloc (.cells #[.slice (some ⟨g, 0, none⟩) n cap, .int .i64 0] 59))) := below_al (below_set4 hbw (show w.heap.size ≤ w.heap.size + 1 by omega) _ _ _ _) _
      change bodyPost _ _ _ _ _ (((set4 w1 (w.heap.size + 1) (.int .i64 0) (.int .i64 0) (.int .i64 0) (.string ⟨#[]⟩)).alloc (.cells #[.slice (some ⟨g, 0, none⟩) n cap, .int .i64 0] 59)))
      generalize ((set4 w1 (w.heap.size + 1) (.int .i64 0) (.int .i64 0) (.int .i64 0) (.string ⟨#[]⟩)).alloc (.cells #[.slice (some ⟨g, 0, none⟩) n cap, .int .i64 0] 59)) = WF at *
      have j0 := blk_cell hW 0
      have j1 := blk_cell hW 1
      have j2 := blk_cell hW 2
      have j3 := blk_cell hW 3
      clear hW hcr hfr
      refine bodyPost_ret (v := .tuple #[.agg #[.int .i64 0, .int .i64 0, .int .i64 0, .string ⟨#[]⟩], .int .i64 13]) ?_ rfl ⟨.inr (.inl ⟨n, Hd.out, rfl, rfl⟩), hB⟩
      simp [results, Tryz.results8, go_sem, j0, j1, j2, j3]
    · have hd4' : d < 5 := by omega
      have Hown := Lib.hid hown
      have hI : Hid (Ints w1 (some ⟨g, 0, none⟩) n (ents l n)) := by
        obtain ⟨A, c, hv, hI⟩ := ints_of_own hown
        simp only [Value.slice.injEq] at hv
        obtain ⟨rfl, -, rfl⟩ := hv
        exact hI
      have hnl := hd.le
      clear hd hown
      go_wp2_with fail
      obtain ⟨V, hV⟩ : ∃ V, V = (w1.alloc (.cells #[.slice (some ⟨g, 0, none⟩) n cap, .int .i64 0] 59)).alloc (.cells #[.slice (some ⟨g, 0, none⟩) n cap, .slice (some ⟨g, 0, none⟩) n cap] 29) := ⟨_, rfl⟩
      have f1 : V.heap[w1.heap.size]? = some (.cells #[.slice (some ⟨g, 0, none⟩) n cap, .int .i64 0] 59 (0, 0)) := by rw [hV]; exact hal (heap_alloc_new w1 _)
      have f2 : V.heap[w.heap.size]? = some (.cells #[.int .i64 k, .int .i64 d, .int .i64 x, .string S] 23 (0, 0)) := by rw [hV]; exact hal (hal hpb)
      have f3 : V.heap[w.heap.size + 1]? = some (.cells #[.int .i64 0, .int .i64 0, .int .i64 0, .string ⟨#[]⟩] 23 (0, 0)) := by rw [hV]; exact hal (hal hrb)
      have f4 : Below w.heap.size w V := by rw [hV]; exact below_al (below_al hbw _) _
      have f5 : V.heap[w1.heap.size + 1]? = some (.cells #[.slice (some ⟨g, 0, none⟩) n cap, .slice (some ⟨g, 0, none⟩) n cap] 29 (0, 0)) := by
        rw [hV]
        have := heap_alloc_new (w1.alloc (.cells #[.slice (some ⟨g, 0, none⟩) n cap, .int .i64 0] 59)) (.cells #[.slice (some ⟨g, 0, none⟩) n cap, .slice (some ⟨g, 0, none⟩) n cap] 29)
        simpa using this
      have f6 : Hid (Ints V (some ⟨g, 0, none⟩) n (ents l n)) := by
        rw [hV]
        exact hI.out.below (below_al (below_al (Below.refl _ _) _) _)
      have hwl : w.heap.size + 1 < w1.heap.size := hlr
      rw [← hV]
      clear hV hb hpb hrb hbw hcp hlp hcr hfr hlr hI Hown
      have hca := Lib.hid (concat_any (w1.heap.size + 1) g n cap (ents l n) V hnl.1 hnl.2 (blk_cell f5 0) (blk_cell f5 1) f6.out)
      clear f6
      refine hca.out.mono ?_
      rintro e w2 ⟨g2, cap2, rfl, hown2, hb2⟩
      have k1 := blk_keep f1 hb2
      have k2 := blk_keep f2 hb2
      have k3 := blk_keep f3 hb2
      have k4 := below_base f4 f4.size hb2
      have hg2 : w1.heap.size + 1 < g2 := by
        have := own_base hown2 g2 rfl
        have := lt_of_block f5
        omega
      have Hown2 := Lib.hid hown2
      clear f1 f2 f3 f4 f5 hca hb2 hown2
      have c1 := blk_cell k1
      have c1f := blk_free k1
      have c2 := blk_cell k2
      have c3 := blk_cell k3
      have c3f := blk_free k3
      have z1 := lt_of_block k1
      have z2 := lt_of_block k2
      have z3 := lt_of_block k3
      have i1 : IntKind.i64.wrap (d + 1) = d + 1 := IntWalk.i64_in _ (by omega)
      go_wp2_with fail
      have hint : Ints (w2.setCell ⟨w1.heap.size, 0, none⟩ (.slice (some ⟨g2, 0, none⟩) (2 * n) cap2)) (some ⟨g2, 0, none⟩) (2 * n) (ents l n ++ ents l n) := by
        have ho := ownsRow_setCell_other Hown2.out (a := ⟨w1.heap.size, 0, none⟩) (by simp [Value.ownBlock]; omega) (.slice (some ⟨g2, 0, none⟩) (2 * n) cap2)
        obtain ⟨A, c, hv, hI⟩ := ints_of_own ho
        simp only [Value.slice.injEq] at hv
        obtain ⟨rfl, -, rfl⟩ := hv
        exact hI
      have hmx : ∀ z ∈ ents l n ++ ents l n, mayP z := fun z hz => by
        have hz : z ∈ ents l n := by simpa using hz
        obtain ⟨i, hi, rfl⟩ := List.mem_map.1 hz
        exact Hd.out.may i (by simpa using hi)
      have hr5 := (heap_setCell_other w2 ⟨w1.heap.size, 0, none⟩ (w.heap.size + 1) (.slice (some ⟨g2, 0, none⟩) (2 * n) cap2) (show w.heap.size + 1 ≠ w1.heap.size by omega)).trans k3
      have hb5 := below_set (j := 0) (u := .slice (some ⟨g2, 0, none⟩) (2 * n) cap2) k4 (show w.heap.size ≤ w1.heap.size by omega)
      refine (page_any k d x 0 (d + 1) S (some ⟨g2, 0, none⟩) (2 * n) cap2 (ents l n ++ ents l n) _ hint hmx (by omega) (Hd.out.le16 hd4')).mono ?_
      rintro e w5 ⟨rfl, hbp⟩
      have hr6 := blk_keep hr5 hbp
      have hb6 := below_base hb5 hb5.size hbp
      obtain ⟨Y, hY⟩ : ∃ Y, Y = str (bodyOf (ents l n ++ ents l n)) := ⟨_, rfl⟩
      rw [← hY]
      have HY := Lib.hid hY
      have c6 := blk_cell hr6
      have c6f := blk_free hr6
      have z6 := lt_of_block hr6
      clear hY hint hr5 hb5 hbp k1 k2 k3 k4 c1 c1f c2 c3 c3f z1 z2 z3 Hown2
      go_wp2
      have hW : (set4 w5 (w.heap.size + 1) (.int .i64 k) (.int .i64 (d + 1)) (.int .i64 x) (.string Y)).heap[w.heap.size + 1]? = _ := set4_same hr6 (.int .i64 k) (.int .i64 (d + 1)) (.int .i64 x) (.string Y)
      have hB := below_set4 hb6 (show w.heap.size ≤ w.heap.size + 1 by omega) (.int .i64 k) (.int .i64 (d + 1)) (.int .i64 x) (.string Y)
      change bodyPost _ _ _ _ _ (set4 w5 (w.heap.size + 1) (.int .i64 k) (.int .i64 (d + 1)) (.int .i64 x) (.string Y))
      generalize set4 w5 (w.heap.size + 1) (.int .i64 k) (.int .i64 (d + 1)) (.int .i64 x) (.string Y) = WF at *
      have j0 := blk_cell hW 0
      have j1 := blk_cell hW 1
      have j2 := blk_cell hW 2
      have j3 := blk_cell hW 3
      clear hW c6 c6f
      refine bodyPost_ret (v := .tuple #[.agg #[.int .i64 k, .int .i64 (d + 1), .int .i64 x, .string Y], .int .i64 0]) ?_ rfl (⟨.inr (.inr ⟨n, Hd.out, hd4', by rw [HY.out]⟩), hB⟩)
      simp [results, Tryz.results8, go_sem, j0, j1, j2, j3]
  · have Hno := Lib.hid hno
    have hpb := (blk2_below hb).1
    have hrb := (blk2_below hb).2
    have hbw := below_box (below_box hb)
    have hcp := blk_cell hpb
    have hlp := lt_of_block hpb
    have hcr := blk_cell hrb
    have hfr := blk_free hrb
    have hlr := lt_of_block hrb
    clear hno
    go_wp2
    have hW : (((set4 w1 (w.heap.size + 1) (.int .i64 0) (.int .i64 0) (.int .i64 0) (.string ⟨#[]⟩)).alloc (.cells #[.slice none 0 0, .int .i64 0] 59))).heap[w.heap.size + 1]? = some (.cells #[.int .i64 0, .int .i64 0, .int .i64 0, .string ⟨#[]⟩] 23 (0, 0)) := hal (set4_same hrb _ _ _ _)
    have hB : Below w.heap.size w (((set4 w1 (w.heap.size + 1) (.int .i64 0) (.int .i64 0) (.int .i64 0) (.string ⟨#[]⟩)).alloc (.cells #[.slice none 0 0, .int .i64 0] 59))) := below_al (below_set4 hbw (show w.heap.size ≤ w.heap.size + 1 by omega) _ _ _ _) _
    change bodyPost _ _ _ _ _ (((set4 w1 (w.heap.size + 1) (.int .i64 0) (.int .i64 0) (.int .i64 0) (.string ⟨#[]⟩)).alloc (.cells #[.slice none 0 0, .int .i64 0] 59)))
    generalize ((set4 w1 (w.heap.size + 1) (.int .i64 0) (.int .i64 0) (.int .i64 0) (.string ⟨#[]⟩)).alloc (.cells #[.slice none 0 0, .int .i64 0] 59)) = WF at *
    have j0 := blk_cell hW 0
    have j1 := blk_cell hW 1
    have j2 := blk_cell hW 2
    have j3 := blk_cell hW 3
    clear hW hcr hfr
    refine bodyPost_ret (v := .tuple #[.agg #[.int .i64 0, .int .i64 0, .int .i64 0, .string ⟨#[]⟩], .int .i64 2]) ?_ rfl ⟨.inl ⟨Hno.out, rfl⟩, hB⟩
    simp [results, Tryz.results8, go_sem, j0, j1, j2, j3]
end Go.Proofs.YtlinolgbpnokcaaGreatDoor.Dr
