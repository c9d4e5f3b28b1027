/- Lemmas of the claim, in their order:
- The contracts of slices.Grow and slices.Concat at lists of numbers.
- The contract of dir's Double.
-/
import Derived.Test.YtijhamllnnilbaaGreatDoorM20
set_option linter.unusedVariables false
set_option linter.unusedSimpArgs false
namespace Go.Proofs.YtijhamllnnilbaaGreatDoor.Dr
open Go.RowKit Go.Proofs.YtijhamllnnilbaaGreatDoor.Mem Go.Proofs.YtijhamllnnilbaaGreatDoor.Pg

theorem own_none {w : World} {base : Nat} {e : TypeId} {size g n cap : Nat} {xs : List Value} (h : w.ownsRow base e size (.slice (some ⟨g, 0, none⟩) n cap) n xs) : w.ownsRow base e size (.slice (some ⟨g, 0, none⟩) 0 cap) 0 [] := by
  refine ⟨by simp, ?_⟩
  rcases h.2 with ⟨h', _⟩ | ⟨g', cap', cur, h', hb, hg, hn, hm, hs, ht⟩
  · simp at h'
  · simp only [Value.slice.injEq, Option.some.injEq, Addr.mk.injEq, and_true, true_and] at h'
    obtain ⟨rfl, rfl⟩ := h'
    exact .inr ⟨g, cap, cur, rfl, hb, hg, Nat.zero_le _, hm, hs, by simp⟩

set_option maxRecDepth 100000 in
set_option maxHeartbeats 4000000 in
theorem grow_any (N : Nat) (h1 : 1 ≤ N) (hN : N ≤ 1000) (w : World) :
    Calls Tryz.prog 250 #[.slice none 0 0, .int .i64 N] w fun e w' =>
      ∃ g cap, e = .returned (.slice (some ⟨g, 0, none⟩) 0 cap) ∧ w'.ownsRow w.heap.size 3 1 (.slice (some ⟨g, 0, none⟩) 0 cap) 0 [] ∧ Below w.heap.size w w' := by
  obtain ⟨i0, hif, hz0, hz1, hz2⟩ := info_parts info_int
  go_enter Tryz.func250, Tryz.ntmps250
  have tb : (Tryz.t3).bytes = 8 := by kernel_rfl
  have nc : Builtin.nextslicecap N 0 = N := by unfold Builtin.nextslicecap; simp; omega
  go_wp2_with fail
  all_goals try (exfalso; simp only [tb, nc] at *; omega)
  obtain ⟨C, hC⟩ : ∃ C, C = (Question.appendCap N 0 3).cut (w.tape w.drawn (.appendCap N 0 3)) := ⟨_, rfl⟩
  have hg := And.intro (grownCap_ge w N 0 3) (grownCap_le_maxLen w N 0 3 (by unfold maxLen; omega))
  unfold grownCap at hg
  rw [← hC] at hg ⊢
  refine bodyPost_ret (v := .slice (some ⟨w.heap.size, 0, none⟩) 0 C) ?_ rfl ⟨w.heap.size, C, rfl, ?_, below_dr (below_al (Below.refl _ _) _)⟩
  · simp [results, Tryz.results250, go_sem]
  · refine own_none (n := C) (xs := (Builtin.zeroCells #[.int .i64 0] N ++ Builtin.zeroCells #[.int .i64 0] (C - N)).toList) ?_
    exact (World.ownsRow_lit w _ C (Nat.le_refl _) hg.2 (by simp [size_zeroCells]; omega)).drew

set_option maxRecDepth 100000 in
set_option maxHeartbeats 4000000 in
theorem concat_any (b g n cap : Nat) (xs : List Int) (w : World) (hn1 : 1 ≤ n) (hn : n ≤ 32) (h0 : w.cell? ⟨b, 0, none⟩ = some (.slice (some ⟨g, 0, none⟩) n cap)) (h1 : w.cell? ⟨b, 1, none⟩ = some (.slice (some ⟨g, 0, none⟩) n cap)) (hx : Ints w (some ⟨g, 0, none⟩) n xs) :
    Calls Tryz.prog 197 #[.slice (some ⟨b, 0, none⟩) 2 2] w fun e w' =>
      ∃ g' cap', e = .returned (.slice (some ⟨g', 0, none⟩) (2 * n) cap') ∧ w'.ownsRow w.heap.size 3 1 (.slice (some ⟨g', 0, none⟩) (2 * n) cap') (2 * n) (ints (xs ++ xs)) ∧ Below w.heap.size w w' := by
  obtain ⟨i0, hif, hz0, hz1, hz2⟩ := info_parts info_int
  go_enter Tryz.func197, Tryz.ntmps197
  obtain ⟨N, hN⟩ : ∃ N, N = 2 * n := ⟨_, rfl⟩
  rw [← hN]
  have hNb : 1 ≤ N ∧ N ≤ 64 := by omega
  have HN := Lib.hid hN
  have i1 : IntKind.i64.wrap (n : Int) = n := IntWalk.i64_in _ (by omega)
  have i2 : IntKind.i64.wrap ((n : Int) + n) = N := by rw [IntWalk.i64_in _ (by omega)]; omega
  clear hN
  go_wp2_with fail
  go_loopw [3, 11] (fun s i wr => wr = w ∧ ((i = .int .i64 0 ∧ s = .int .i64 0) ∨ (i = .int .i64 1 ∧ s = .int .i64 n) ∨ (i = .int .i64 2 ∧ s = .int .i64 N))) (fun _ i _ => 2 - (intOf i).toNat)
  case atStart => exact ⟨rfl, .inl ⟨rfl, rfl⟩⟩
  case round =>
    obtain ⟨hw, h⟩ := hrel
    have hw := hw.symm
    subst hw
    rcases h with ⟨rfl, rfl⟩ | ⟨rfl, rfl⟩ | ⟨rfl, rfl⟩
    · go_wp2_with fail
      case roundEnd => exact ⟨⟨trivial, .inr (.inl ⟨rfl, rfl⟩)⟩, by decide⟩
    · go_wp2_with fail
      case roundEnd => exact ⟨⟨trivial, .inr (.inr ⟨rfl, rfl⟩)⟩, by decide⟩
    · go_wp2_with fail
      refine (grow_any N (by omega) (by omega) _).mono ?_
      rintro e w1 ⟨g1, cap1, rfl, ho1, hb1⟩
      have Ho1 := Lib.hid ho1
      have Hx := Lib.hid hx
      clear ho1 hx
      go_wp2_with fail
      go_loopw [6, 27] (fun v i wr => (Below w.heap.size w wr) ∧ ((i = .int .i64 0 ∧ wr.ownsRow w.heap.size 3 1 v 0 []) ∨ (i = .int .i64 1 ∧ wr.ownsRow w.heap.size 3 1 v n (ints xs)) ∨ (i = .int .i64 2 ∧ wr.ownsRow w.heap.size 3 1 v N (ints xs ++ ints xs)))) (fun _ i _ => 2 - (intOf i).toNat)
      case atStart => exact ⟨hb1, .inl ⟨rfl, Ho1.out⟩⟩
      case round =>
        obtain ⟨hbel, h⟩ := hrel
        have hc0 := (hbel.cell (World.block_lt_of_cell? w _ h0)).trans h0
        have hc1 := (hbel.cell (World.block_lt_of_cell? w _ h1)).trans h1
        have hI := Hx.out.below hbel
        have hnl : (ints xs).length = n := by rw [ints_length]; exact hI.1
        have hsz := hbel.size
        have hnw : ∀ j u, (ints xs)[j]? = some u → wr.cell? ((⟨g, 0, none⟩ : Addr).add j) = some u := by
          intro j u hu
          obtain ⟨b', off', he, _, hce⟩ := hI.2.2 (by omega)
          have hj : j < xs.length := by
            rw [ints, List.getElem?_map] at hu
            by_cases hj : j < xs.length
            · exact hj
            · rw [List.getElem?_eq_none (by omega)] at hu
              cases hu
          injection he with he
          injection he with e1 e2 e3
          subst e1
          subst e2
          have := hce j (by rw [← hI.1]; exact hj)
          rw [ints, List.getElem?_map, List.getElem?_eq_getElem hj] at hu
          rw [List.getD_eq_getElem?_getD, List.getElem?_eq_getElem hj, Option.getD_some] at this
          rw [Addr.add_lit]
          exact this.trans hu
        have hone : ∀ u ∈ ints xs, u.oneCell' = true := by
          intro u hu
          obtain ⟨z, _, rfl⟩ := List.mem_map.1 hu
          rfl
        rcases h with ⟨rfl, hown⟩ | ⟨rfl, hown⟩ | ⟨rfl, hown⟩
        · go_wp2_with (at_builtin; refine wpList_append_own _ rfl (.tmp 31) (.tmp 32) _ rfl w.heap.size 3 i0 (.int .i64 0) 1 8 Tryz.underlying45 hif hz0 hz1 hz2 rfl (by decide) _ 0 [] rfl hown ⟨g, 0, none⟩ n cap (ints xs) rfl (by rw [Nat.mul_one]; exact hnl) hnw hone (by unfold maxLen; omega) (by omega) hsz ?_; intro v' w4 hown4 hgrow _)
          case roundEnd => exact ⟨⟨below_grown hbel hsz hown hgrow, .inr (.inl ⟨rfl, by simpa using hown4⟩)⟩, by decide⟩
        · go_wp2_with (at_builtin; refine wpList_append_own _ rfl (.tmp 31) (.tmp 32) _ rfl w.heap.size 3 i0 (.int .i64 0) 1 8 Tryz.underlying45 hif hz0 hz1 hz2 rfl (by decide) _ n (ints xs) rfl hown ⟨g, 0, none⟩ n cap (ints xs) rfl (by rw [Nat.mul_one]; exact hnl) hnw hone (by unfold maxLen; omega) (by omega) hsz ?_; intro v' w4 hown4 hgrow _)
          case roundEnd => exact ⟨⟨below_grown hbel hsz hown hgrow, .inr (.inr ⟨rfl, by rw [HN.out, Nat.two_mul]; exact hown4⟩)⟩, by decide⟩
        · go_wp2_with fail
          obtain ⟨g', cap', rfl, _, _⟩ := hown.form (by omega)
          refine bodyPost_ret (v := .slice (some ⟨g', 0, none⟩) N cap') ?_ rfl ⟨g', cap', rfl, by rw [ints, List.map_append]; exact hown, hbel⟩
          simp [results, Tryz.results197, go_sem]
end Go.Proofs.YtijhamllnnilbaaGreatDoor.Dr
namespace Go.Proofs.YtijhamllnnilbaaGreatDoor.Dr
open Go.RowKit Go.Proofs.YtijhamllnnilbaaGreatDoor.Mem Go.Proofs.YtijhamllnnilbaaGreatDoor.Pg

theorem IsDir.le16 {k d : Int} {l : List UInt8} {n : Nat} (h : IsDir k d l n) (h4 : d < 5) : 2 * n ≤ 32 := by
  have h1 := h.lo
  have h3 := h.size
  obtain ⟨m, rfl⟩ := Int.eq_ofNat_of_zero_le h1
  have : m ≤ 4 := by omega
  match m, this with
  | 0, _ | 1, _ | 2, _ | 3, _ | 4, _ => simp at h3; omega
def DoublePost (w : World) (k d x : Int) (l : List UInt8) (e : Ending) (w' : World) : Prop :=
  (((∀ n, ¬ IsDir k d l n) ∧ e = .returned (.tuple #[.agg #[.int .i64 0, .int .i64 0, .int .i64 0, .string ⟨#[]⟩], .int .i64 2])) ∨
   (∃ n, IsDir k d l n ∧ d = 5 ∧ e = .returned (.tuple #[.agg #[.int .i64 0, .int .i64 0, .int .i64 0, .string ⟨#[]⟩], .int .i64 13])) ∨
   (∃ n, IsDir k d l n ∧ d < 5 ∧ e = .returned (.tuple #[.agg #[.int .i64 k, .int .i64 (d + 1), .int .i64 x, .string (str (bodyOf (ents l n ++ ents l n)))], .int .i64 0]))) ∧ Below w.heap.size w w'

set_option maxRecDepth 100000 in
set_option maxHeartbeats 4000000 in
theorem double_any (k d x : Int) (l : List UInt8) (w : World) :
    Calls Tryz.prog 142 #[.agg #[.int .i64 k, .int .i64 d, .int .i64 x, .string (str l)]] w (DoublePost w k d x l) := by
  have hof := fun w => of_any k d x l w
  generalize str l = S at *
  go_enter Tryz.func142, Tryz.ntmps142
  go_wp2_with fail
  with_reducible refine (hof _).mono ?_
  clear hof
  rintro e w1 (⟨n, g, cap, hd, rfl, hown, hgl, hgb, hb⟩ | ⟨hno, rfl, hb⟩)
  · have Hd := Lib.hid hd
    have hpb := (blk2_below hb).1
    have hrb := (blk2_below hb).2
    have hbw := below_box (below_box hb)
    have hcp := blk_cell hpb
    have hlp := lt_of_block hpb
    have hcr := blk_cell hrb
    have hfr := blk_free hrb
    have hlr := lt_of_block hrb
    have hd5 : d ≤ 5 := hd.hi
    have hd0 : 0 ≤ d := hd.lo
    by_cases hd4 : d = 5
    · subst hd4
      clear hd hown
      go_wp2
      have hW : (((set4 w1 (w.heap.size + 1) (.int .i64 0) (.int .i64 0) (.int .i64 0) (.string ⟨#[]⟩)).alloc (.cells #[.slice (some ⟨g, 0, none⟩) n cap, .int .i64 0] 248))).heap[w.heap.size + 1]? = some (.cells #[.int .i64 0, .int .i64 0, .int .i64 0, .string ⟨#[]⟩] 113 (0, 0)) := hal (set4_same hrb _ _ _ _)
      have hB : Below w.heap.size w (((set4 w1 (w.heap.size + 1) (.int .i64 0) (.int .i64 0) (.int .i64 0) (.string ⟨#[]⟩)).alloc (.cells #[.slice (some ⟨g, 0, none⟩) n cap, .int .i64 0] 248))) := below_al (below_set4 hbw (show w.heap.size ≤ w.heap.size + 1 by omega) _ _ _ _) _
      change bodyPost _ _ _ _ _ (((set4 w1 (w.heap.size + 1) (.int .i64 0) (.int .i64 0) (.int .i64 0) (.string ⟨#[]⟩)).alloc (.cells #[.slice (some ⟨g, 0, none⟩) n cap, .int .i64 0] 248)))
      generalize ((set4 w1 (w.heap.size + 1) (.int .i64 0) (.int .i64 0) (.int .i64 0) (.string ⟨#[]⟩)).alloc (.cells #[.slice (some ⟨g, 0, none⟩) n cap, .int .i64 0] 248)) = WF at *
      have j0 := blk_cell hW 0
      have j1 := blk_cell hW 1
      have j2 := blk_cell hW 2
      have j3 := blk_cell hW 3
      clear hW hcr hfr
      refine bodyPost_ret (v := .tuple #[.agg #[.int .i64 0, .int .i64 0, .int .i64 0, .string ⟨#[]⟩], .int .i64 13]) ?_ rfl ⟨.inr (.inl ⟨n, Hd.out, rfl, rfl⟩), hB⟩
      simp [results, Tryz.results142, go_sem, j0, j1, j2, j3]
    · have hd4' : d < 5 := by omega
      have Hown := Lib.hid hown
      have hI : Hid (Ints w1 (some ⟨g, 0, none⟩) n (ents l n)) := by
        obtain ⟨A, c, hv, hI⟩ := ints_of_own hown
        simp only [Value.slice.injEq] at hv
        obtain ⟨rfl, -, rfl⟩ := hv
        exact hI
      have hnl := hd.le
      clear hd hown
      go_wp2_with fail
      obtain ⟨V, hV⟩ : ∃ V, V = (w1.alloc (.cells #[.slice (some ⟨g, 0, none⟩) n cap, .int .i64 0] 248)).alloc (.cells #[.slice (some ⟨g, 0, none⟩) n cap, .slice (some ⟨g, 0, none⟩) n cap] 45) := ⟨_, rfl⟩
      have f1 : V.heap[w1.heap.size]? = some (.cells #[.slice (some ⟨g, 0, none⟩) n cap, .int .i64 0] 248 (0, 0)) := by rw [hV]; exact hal (heap_alloc_new w1 _)
      have f2 : V.heap[w.heap.size]? = some (.cells #[.int .i64 k, .int .i64 d, .int .i64 x, .string S] 113 (0, 0)) := by rw [hV]; exact hal (hal hpb)
      have f3 : V.heap[w.heap.size + 1]? = some (.cells #[.int .i64 0, .int .i64 0, .int .i64 0, .string ⟨#[]⟩] 113 (0, 0)) := by rw [hV]; exact hal (hal hrb)
      have f4 : Below w.heap.size w V := by rw [hV]; exact below_al (below_al hbw _) _
      have f5 : V.heap[w1.heap.size + 1]? = some (.cells #[.slice (some ⟨g, 0, none⟩) n cap, .slice (some ⟨g, 0, none⟩) n cap] 45 (0, 0)) := by
        rw [hV]
        have := heap_alloc_new (w1.alloc (.cells #[.slice (some ⟨g, 0, none⟩) n cap, .int .i64 0] 248)) (.cells #[.slice (some ⟨g, 0, none⟩) n cap, .slice (some ⟨g, 0, none⟩) n cap] 45)
        simpa using this
      have f6 : Hid (Ints V (some ⟨g, 0, none⟩) n (ents l n)) := by
        rw [hV]
        exact hI.out.below (below_al (below_al (Below.refl _ _) _) _)
      have hwl : w.heap.size + 1 < w1.heap.size := hlr
      rw [← hV]
      clear hV hb hpb hrb hbw hcp hlp hcr hfr hlr hI Hown
      have hca := Lib.hid (concat_any (w1.heap.size + 1) g n cap (ents l n) V hnl.1 hnl.2 (blk_cell f5 0) (blk_cell f5 1) f6.out)
      clear f6
      refine hca.out.mono ?_
      rintro e w2 ⟨g2, cap2, rfl, hown2, hb2⟩
      have k1 := blk_keep f1 hb2
      have k2 := blk_keep f2 hb2
      have k3 := blk_keep f3 hb2
      have k4 := below_base f4 f4.size hb2
      have hg2 : w1.heap.size + 1 < g2 := by
        have := own_base hown2 g2 rfl
        have := lt_of_block f5
        omega
      have Hown2 := Lib.hid hown2
      clear f1 f2 f3 f4 f5 hca hb2 hown2
      have c1 := blk_cell k1
      have c1f := blk_free k1
      have c2 := blk_cell k2
      have c3 := blk_cell k3
      have c3f := blk_free k3
      have z1 := lt_of_block k1
      have z2 := lt_of_block k2
      have z3 := lt_of_block k3
      have i1 : IntKind.i64.wrap (d + 1) = d + 1 := IntWalk.i64_in _ (by omega)
      go_wp2_with fail
      have hint : Ints (w2.setCell ⟨w1.heap.size, 0, none⟩ (.slice (some ⟨g2, 0, none⟩) (2 * n) cap2)) (some ⟨g2, 0, none⟩) (2 * n) (ents l n ++ ents l n) := by
        have ho := ownsRow_setCell_other Hown2.out (a := ⟨w1.heap.size, 0, none⟩) (by simp [Value.ownBlock]; omega) (.slice (some ⟨g2, 0, none⟩) (2 * n) cap2)
        obtain ⟨A, c, hv, hI⟩ := ints_of_own ho
        simp only [Value.slice.injEq] at hv
        obtain ⟨rfl, -, rfl⟩ := hv
        exact hI
      have hmx : ∀ z ∈ ents l n ++ ents l n, mayP z := fun z hz => by
        have hz : z ∈ ents l n := by simpa using hz
        obtain ⟨i, hi, rfl⟩ := List.mem_map.1 hz
        exact Hd.out.may i (by simpa using hi)
      have hr5 := (heap_setCell_other w2 ⟨w1.heap.size, 0, none⟩ (w.heap.size + 1) (.slice (some ⟨g2, 0, none⟩) (2 * n) cap2) (show w.heap.size + 1 ≠ w1.heap.size by omega)).trans k3
      have hb5 := below_set (j := 0) (u := .slice (some ⟨g2, 0, none⟩) (2 * n) cap2) k4 (show w.heap.size ≤ w1.heap.size by omega)
      refine (page_any k d x 0 (d + 1) S (some ⟨g2, 0, none⟩) (2 * n) cap2 (ents l n ++ ents l n) _ hint hmx (by omega) (Hd.out.le16 hd4')).mono ?_
      rintro e w5 ⟨rfl, hbp⟩
      have hr6 := blk_keep hr5 hbp
      have hb6 := below_base hb5 hb5.size hbp
      obtain ⟨Y, hY⟩ : ∃ Y, Y = str (bodyOf (ents l n ++ ents l n)) := ⟨_, rfl⟩
      rw [← hY]
      have HY := Lib.hid hY
      have c6 := blk_cell hr6
      have c6f := blk_free hr6
      have z6 := lt_of_block hr6
      clear hY hint hr5 hb5 hbp k1 k2 k3 k4 c1 c1f c2 c3 c3f z1 z2 z3 Hown2
      go_wp2
      have hW : (set4 w5 (w.heap.size + 1) (.int .i64 k) (.int .i64 (d + 1)) (.int .i64 x) (.string Y)).heap[w.heap.size + 1]? = _ := set4_same hr6 (.int .i64 k) (.int .i64 (d + 1)) (.int .i64 x) (.string Y)
      have hB := below_set4 hb6 (show w.heap.size ≤ w.heap.size + 1 by omega) (.int .i64 k) (.int .i64 (d + 1)) (.int .i64 x) (.string Y)
      change bodyPost _ _ _ _ _ (set4 w5 (w.heap.size + 1) (.int .i64 k) (.int .i64 (d + 1)) (.int .i64 x) (.string Y))
      generalize set4 w5 (w.heap.size + 1) (.int .i64 k) (.int .i64 (d + 1)) (.int .i64 x) (.string Y) = WF at *
      have j0 := blk_cell hW 0
      have j1 := blk_cell hW 1
      have j2 := blk_cell hW 2
      have j3 := blk_cell hW 3
      clear hW c6 c6f
      refine bodyPost_ret (v := .tuple #[.agg #[.int .i64 k, .int .i64 (d + 1), .int .i64 x, .string Y], .int .i64 0]) ?_ rfl (⟨.inr (.inr ⟨n, Hd.out, hd4', by rw [HY.out]⟩), hB⟩)
      simp [results, Tryz.results142, go_sem, j0, j1, j2, j3]
  · have Hno := Lib.hid hno
    have hpb := (blk2_below hb).1
    have hrb := (blk2_below hb).2
    have hbw := below_box (below_box hb)
    have hcp := blk_cell hpb
    have hlp := lt_of_block hpb
    have hcr := blk_cell hrb
    have hfr := blk_free hrb
    have hlr := lt_of_block hrb
    clear hno
    go_wp2
    have hW : (((set4 w1 (w.heap.size + 1) (.int .i64 0) (.int .i64 0) (.int .i64 0) (.string ⟨#[]⟩)).alloc (.cells #[.slice none 0 0, .int .i64 0] 248))).heap[w.heap.size + 1]? = some (.cells #[.int .i64 0, .int .i64 0, .int .i64 0, .string ⟨#[]⟩] 113 (0, 0)) := hal (set4_same hrb _ _ _ _)
    have hB : Below w.heap.size w (((set4 w1 (w.heap.size + 1) (.int .i64 0) (.int .i64 0) (.int .i64 0) (.string ⟨#[]⟩)).alloc (.cells #[.slice none 0 0, .int .i64 0] 248))) := below_al (below_set4 hbw (show w.heap.size ≤ w.heap.size + 1 by omega) _ _ _ _) _
    change bodyPost _ _ _ _ _ (((set4 w1 (w.heap.size + 1) (.int .i64 0) (.int .i64 0) (.int .i64 0) (.string ⟨#[]⟩)).alloc (.cells #[.slice none 0 0, .int .i64 0] 248)))
    generalize ((set4 w1 (w.heap.size + 1) (.int .i64 0) (.int .i64 0) (.int .i64 0) (.string ⟨#[]⟩)).alloc (.cells #[.slice none 0 0, .int .i64 0] 248)) = WF at *
    have j0 := blk_cell hW 0
    have j1 := blk_cell hW 1
    have j2 := blk_cell hW 2
    have j3 := blk_cell hW 3
    clear hW hcr hfr
    refine bodyPost_ret (v := .tuple #[.agg #[.int .i64 0, .int .i64 0, .int .i64 0, .string ⟨#[]⟩], .int .i64 2]) ?_ rfl ⟨.inl ⟨Hno.out, rfl⟩, hB⟩
    simp [results, Tryz.results142, go_sem, j0, j1, j2, j3]
end Go.Proofs.YtijhamllnnilbaaGreatDoor.Dr
