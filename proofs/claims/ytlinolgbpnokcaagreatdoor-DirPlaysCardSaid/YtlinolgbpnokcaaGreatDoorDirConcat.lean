/- The contracts of slices.Grow and slices.Concat at lists of numbers. -/
import Derived.Test.YtlinolgbpnokcaaGreatDoorDirSet
namespace Go.Proofs.YtlinolgbpnokcaaGreatDoor.Dr
open Go.RowKit Go.Proofs.YtlinolgbpnokcaaGreatDoor.Mem Go.Proofs.YtlinolgbpnokcaaGreatDoor.Pg

theorem own_none {w : World} {base : Nat} {e : TypeId} {size g n cap : Nat} {xs : List Value} (h : w.ownsRow base e size (.slice (some ⟨g, 0, none⟩) n cap) n xs) : w.ownsRow base e size (.slice (some ⟨g, 0, none⟩) 0 cap) 0 [] := by
  refine ⟨by simp, ?_⟩
  rcases h.2 with ⟨h', _⟩ | ⟨g', cap', cur, h', hb, hg, hn, hm, hs, ht⟩
  · simp at h'
  · simp only [Value.slice.injEq, Option.some.injEq, Addr.mk.injEq, and_true, true_and] at h'
    obtain ⟨rfl, rfl⟩ := h'
    exact .inr ⟨g, cap, cur, rfl, hb, hg, Nat.zero_le _, hm, hs, by simp⟩

set_option maxRecDepth 100000 in
set_option maxHeartbeats 4000000 in
theorem grow_any (N : Nat) (h1 : 1 ≤ N) (hN : N ≤ 1000) (w : World) :
    Calls Tryz.prog 67 #[.slice none 0 0, .int .i64 N] w fun e w' =>
      ∃ g cap, e = .returned (.slice (some ⟨g, 0, none⟩) 0 cap) ∧ w'.ownsRow w.heap.size 3 1 (.slice (some ⟨g, 0, none⟩) 0 cap) 0 [] ∧ Below w.heap.size w w' := by
  obtain ⟨i0, hif, hz0, hz1, hz2⟩ := info_parts info_int
  go_enter Tryz.func67, Tryz.ntmps67
  have tb : (Tryz.t3).bytes = 8 := by kernel_rfl
  have nc : Builtin.nextslicecap N 0 = N := by unfold Builtin.nextslicecap; simp; omega
  go_wp2_with fail
  all_goals try (exfalso; simp only [tb, nc] at *; omega)
  obtain ⟨C, hC⟩ : ∃ C, C = (Question.appendCap N 0 3).cut (w.tape w.drawn (.appendCap N 0 3)) := ⟨_, rfl⟩
  have hg := And.intro (grownCap_ge w N 0 3) (grownCap_le_maxLen w N 0 3 (by unfold maxLen; omega))
  unfold grownCap at hg
  rw [← hC] at hg ⊢
  refine bodyPost_ret (v := .slice (some ⟨w.heap.size, 0, none⟩) 0 C) ?_ rfl ⟨w.heap.size, C, rfl, ?_, below_dr (below_al (Below.refl _ _) _)⟩
  · simp [results, Tryz.results67, go_sem]
  · refine own_none (n := C) (xs := (Builtin.zeroCells #[.int .i64 0] N ++ Builtin.zeroCells #[.int .i64 0] (C - N)).toList) ?_
    exact (World.ownsRow_lit w _ C (Nat.le_refl _) hg.2 (by simp [size_zeroCells]; omega)).drew

set_option maxRecDepth 100000 in
set_option maxHeartbeats 4000000 in
theorem concat_any (b g n cap : Nat) (xs : List Int) (w : World) (hn1 : 1 ≤ n) (hn : n ≤ 32) (h0 : w.cell? ⟨b, 0, none⟩ = some (.slice (some ⟨g, 0, none⟩) n cap)) (h1 : w.cell? ⟨b, 1, none⟩ = some (.slice (some ⟨g, 0, none⟩) n cap)) (hx : Ints w (some ⟨g, 0, none⟩) n xs) :
    Calls Tryz.prog 24 #[.slice (some ⟨b, 0, none⟩) 2 2] w fun e w' =>
      ∃ g' cap', e = .returned (.slice (some ⟨g', 0, none⟩) (2 * n) cap') ∧ w'.ownsRow w.heap.size 3 1 (.slice (some ⟨g', 0, none⟩) (2 * n) cap') (2 * n) (ints (xs ++ xs)) ∧ Below w.heap.size w w' := by
  obtain ⟨i0, hif, hz0, hz1, hz2⟩ := info_parts info_int
  go_enter Tryz.func24, Tryz.ntmps24
  obtain ⟨N, hN⟩ : ∃ N, N = 2 * n := ⟨_, rfl⟩
  rw [← hN]
  have hNb : 1 ≤ N ∧ N ≤ 64 := by omega
  have HN := Lib.hid hN
  have i1 : IntKind.i64.wrap (n : Int) = n := IntWalk.i64_in _ (by omega)
  have i2 : IntKind.i64.wrap ((n : Int) + n) = N := by rw [IntWalk.i64_in _ (by omega)]; omega
  clear hN
  go_wp2_with fail
  go_loopw [3, 11] (fun s i wr => wr = w ∧ ((i = .int .i64 0 ∧ s = .int .i64 0) ∨ (i = .int .i64 1 ∧ s = .int .i64 n) ∨ (i = .int .i64 2 ∧ s = .int .i64 N))) (fun _ i _ => 2 - (intOf i).toNat)
  case atStart => exact ⟨rfl, .inl ⟨rfl, rfl⟩⟩
  case round =>
    obtain ⟨hw, h⟩ := hrel
    have hw := hw.symm
    subst hw
    rcases h with ⟨rfl, rfl⟩ | ⟨rfl, rfl⟩ | ⟨rfl, rfl⟩
    · go_wp2_with fail
      case roundEnd => exact ⟨⟨trivial, .inr (.inl ⟨rfl, rfl⟩)⟩, by decide⟩
    · go_wp2_with fail
      case roundEnd => exact ⟨⟨trivial, .inr (.inr ⟨rfl, rfl⟩)⟩, by decide⟩
    · go_wp2_with fail
      refine (grow_any N (by omega) (by omega) _).mono ?_
      rintro e w1 ⟨g1, cap1, rfl, ho1, hb1⟩
      have Ho1 := Lib.hid ho1
      have Hx := Lib.hid hx
      clear ho1 hx
      go_wp2_with fail
      go_loopw [6, 27] (fun v i wr => (Below w.heap.size w wr) ∧ ((i = .int .i64 0 ∧ wr.ownsRow w.heap.size 3 1 v 0 []) ∨ (i = .int .i64 1 ∧ wr.ownsRow w.heap.size 3 1 v n (ints xs)) ∨ (i = .int .i64 2 ∧ wr.ownsRow w.heap.size 3 1 v N (ints xs ++ ints xs)))) (fun _ i _ => 2 - (intOf i).toNat)
      case atStart => exact ⟨hb1, .inl ⟨rfl, Ho1.out⟩⟩
      case round =>
        obtain ⟨hbel, h⟩ := hrel
        have hc0 := (hbel.cell (World.block_lt_of_cell? w _ h0)).trans h0
        have hc1 := (hbel.cell (World.block_lt_of_cell? w _ h1)).trans h1
        have hI := Hx.out.below hbel
        have hnl : (ints xs).length = n := by rw [ints_length]; exact hI.1
        have hsz := hbel.size
        have hnw : ∀ j u, (ints xs)[j]? = some u → wr.cell? ((⟨g, 0, none⟩ : Addr).add j) = some u := by
          intro j u hu
          obtain ⟨b', off', he, _, hce⟩ := hI.2.2 (by omega)
          have hj : j < xs.length := by
            rw [ints, List.getElem?_map] at hu
            by_cases hj : j < xs.length
            · exact hj
            · rw [List.getElem?_eq_none (by omega)] at hu
              cases hu
          injection he with he
          injection he with e1 e2 e3
          subst e1
          subst e2
          have := hce j (by rw [← hI.1]; exact hj)
          rw [ints, List.getElem?_map, List.getElem?_eq_getElem hj] at hu
          rw [List.getD_eq_getElem?_getD, List.getElem?_eq_getElem hj, Option.getD_some] at this
          rw [Addr.add_lit]
          exact this.trans hu
        have hone : ∀ u ∈ ints xs, u.oneCell' = true := by
          intro u hu
          obtain ⟨z, _, rfl⟩ := List.mem_map.1 hu
          rfl
        rcases h with ⟨rfl, hown⟩ | ⟨rfl, hown⟩ | ⟨rfl, hown⟩
        · go_wp2_with (at_builtin; refine wpList_append_own _ rfl (.tmp 31) (.tmp 32) _ rfl w.heap.size 3 i0 (.int .i64 0) 1 8 Tryz.underlying29 hif hz0 hz1 hz2 rfl (by decide) _ 0 [] rfl hown ⟨g, 0, none⟩ n cap (ints xs) rfl (by rw [Nat.mul_one]; exact hnl) hnw hone (by unfold maxLen; omega) (by omega) hsz ?_; intro v' w4 hown4 hgrow _)
          case roundEnd => exact ⟨⟨below_grown hbel hsz hown hgrow, .inr (.inl ⟨rfl, by simpa using hown4⟩)⟩, by decide⟩
        · go_wp2_with (at_builtin; refine wpList_append_own _ rfl (.tmp 31) (.tmp 32) _ rfl w.heap.size 3 i0 (.int .i64 0) 1 8 Tryz.underlying29 hif hz0 hz1 hz2 rfl (by decide) _ n (ints xs) rfl hown ⟨g, 0, none⟩ n cap (ints xs) rfl (by rw [Nat.mul_one]; exact hnl) hnw hone (by unfold maxLen; omega) (by omega) hsz ?_; intro v' w4 hown4 hgrow _)
          case roundEnd => exact ⟨⟨below_grown hbel hsz hown hgrow, .inr (.inr ⟨rfl, by rw [HN.out, Nat.two_mul]; exact hown4⟩)⟩, by decide⟩
        · go_wp2_with fail
          obtain ⟨g', cap', rfl, _, _⟩ := hown.form (by omega)
          refine bodyPost_ret (v := .slice (some ⟨g', 0, none⟩) N cap') ?_ rfl ⟨g', cap', rfl, by rw [ints, List.map_append]; exact hown, hbel⟩
          simp [results, Tryz.results24, go_sem]
end Go.Proofs.YtlinolgbpnokcaaGreatDoor.Dr
