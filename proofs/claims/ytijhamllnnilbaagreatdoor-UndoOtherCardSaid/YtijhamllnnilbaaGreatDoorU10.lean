/- Lemmas of the claim, in their order:
- The contract of the entries' page.
-/
import Derived.Test.YtijhamllnnilbaaGreatDoorU09
import Derived.Laws.BytesArg
set_option linter.unusedVariables false
set_option linter.unusedSimpArgs false
namespace Go.Proofs.YtijhamllnnilbaaGreatDoor.Dr
open Go.RowKit Go.Proofs.YtijhamllnnilbaaGreatDoor.Mem Go.Proofs.YtijhamllnnilbaaGreatDoor.Pg

theorem info_byte : (Tryz.prog.info? 5).map (fun i => (i.zero, i.size, i.bytes)) = some (some (.int .u8 0), 1, 1) := by kernel_rfl
/-- The bytes of entries. -/
def nums (xs : List Int) : List Int := xs.flatMap fun x => [0, x]
theorem nums_len (xs : List Int) : (nums xs).length = 2 * xs.length := by
  induction xs with
  | nil => rfl
  | cons x xs ih => rw [nums, List.flatMap_cons, List.length_append, ← nums, ih]; simp; omega
theorem nums_snoc (xs : List Int) (x : Int) : nums (xs ++ [x]) = nums xs ++ [0, x] := by simp [nums]
def encL (xs : List Int) : List UInt8 := (nums xs).map fun x => UInt8.ofNat x.toNat
theorem encL_len (xs : List Int) : (encL xs).length = 2 * xs.length := by rw [encL, List.length_map, nums_len]
def u8s (l : List Int) : List Value := l.map (Value.int .u8)
/-- The body of a page of entries. -/
def bodyOf (xs : List Int) : List UInt8 := encL xs ++ zs (240 - 2 * xs.length)

set_option maxRecDepth 100000 in
set_option maxHeartbeats 4000000 in
theorem page_any (k d x m dep : Int) (s : ByteArray) (A : Option Addr) (n cap : Nat) (xs : List Int) (w : World) (hz : Ints w A n xs) (hm : ∀ y ∈ xs, mayP y) (hn1 : 1 ≤ n) (hn : n ≤ 32) :
    Calls Tryz.prog 164 #[.agg #[.slice A n cap, .int .i64 m], .agg #[.int .i64 k, .int .i64 d, .int .i64 x, .string s], .int .i64 dep] w fun e w' =>
      e = .returned (.agg #[.int .i64 k, .int .i64 dep, .int .i64 x, .string (str (bodyOf xs))]) ∧ Below w.heap.size w w' := by
  obtain ⟨b, off, rfl, hbl, hcell⟩ := hz.2.2 (by omega)
  have hxl := hz.1
  obtain ⟨i0, hif, hz0, hz1, hz2⟩ := info_parts info_byte
  have Hcell := Lib.hid hcell
  have Hm := Lib.hid hm
  have Hxl := Lib.hid hxl
  clear hcell hm hxl hz
  go_enter Tryz.func164, Tryz.ntmps164
  go_wp2_with fail
  go_loopw [7, 13] (fun v i wr => ∃ j : Nat, i = .int .i64 j ∧ j ≤ n ∧ wr.heap[w.heap.size + 1]? = some (.cells #[.int .i64 k, .int .i64 d, .int .i64 x, .string s] 113 (0, 0)) ∧ wr.heap[w.heap.size + 2]? = some (.cells #[.int .i64 0, .int .i64 0, .int .i64 0, .string ⟨#[]⟩] 113 (0, 0)) ∧ wr.ownsRow (w.heap.size + 3) 5 1 v (2 * j) (u8s (nums (xs.take j))) ∧ Below w.heap.size w wr) (fun _ i _ => n - (intOf i).toNat)
  case atStart =>
    refine ⟨0, rfl, Nat.zero_le _, hal ?_, ?_, World.ownsRow_nil _ _ _ _, below_al (below_al (below_al (Below.refl _ w) _) _) _⟩
    · have := heap_alloc_new (w.alloc (.cells #[.slice (some ⟨b, off, none⟩) n cap, .int .i64 m] 248)) (.cells #[.int .i64 k, .int .i64 d, .int .i64 x, .string s] 113)
      simpa using this
    · have := heap_alloc_new ((w.alloc (.cells #[.slice (some ⟨b, off, none⟩) n cap, .int .i64 m] 248)).alloc (.cells #[.int .i64 k, .int .i64 d, .int .i64 x, .string s] 113)) (.cells #[.int .i64 0, .int .i64 0, .int .i64 0, .string ⟨#[]⟩] 113)
      simpa using this
  case round =>
    obtain ⟨j, rfl, hj, hpg, hres, hown, hbel⟩ := hrel
    by_cases hlt : j < n
    · obtain ⟨X, hX⟩ : ∃ X, X = xs.getD j 0 := ⟨_, rfl⟩
      have hx := (hbel.cell (p := ⟨b, off + j, none⟩) hbl).trans (Hcell.out j hlt)
      rw [← hX] at hx
      have hXm : mayP X := by
        have h2 := Hxl.out
        refine Hm.out X (List.mem_iff_getElem?.2 ⟨j, ?_⟩)
        rw [hX, List.getD_eq_getElem?_getD, List.getElem?_eq_getElem (by omega), Option.getD_some]
      have hXr : 2 ≤ X ∧ X < 64 := hXm
      have q1 : X / 256 = 0 := by omega
      have q2 : IntKind.u8.wrap X = X := IntWalk.u8_in _ (by omega)
      have HX := Lib.hid hX
      clear hX hXm
      go_wp2_with (at_builtin; refine wpList_append_own _ rfl (.tmp 17) (.tmp 23) _ rfl (w.heap.size + 3) 5 i0 (.int .u8 0) 1 1 Tryz.underlying43 hif hz0 hz1 hz2 rfl (by decide) _ (2 * j) (u8s (nums (xs.take j))) rfl (hown.alloc _) ⟨wr.heap.size, 0, none⟩ 2 2 [.int .u8 0, .int .u8 X] rfl rfl (cells_new _ _ rfl [.int .u8 0, .int .u8 X] _) (by intro u hu; simp at hu; rcases hu with rfl | rfl <;> rfl) (by unfold maxLen; omega) (by omega) (by have := lt_of_block hres; simp; omega) ?_; intro v' w4 hown4 hgrow _)
      have hg4 : (wr.alloc (.cells #[.int .u8 0, .int .u8 X] 5)).grownBy w4 u7.ownBlock := hgrow
      have hts : xs.take (j + 1) = xs.take j ++ [X] := by
        have h2 := Hxl.out
        have h3 := HX.out
        rw [List.take_add_one, List.getElem?_eq_getElem (by omega), Option.toList_some, h3, List.getD_eq_getElem?_getD, List.getElem?_eq_getElem (by omega), Option.getD_some]
      have hr' := keep_grown (W := wr.alloc (.cells #[.int .u8 0, .int .u8 X] 5)) hown hg4 (by omega) (hal hres)
      have hp' := keep_grown (W := wr.alloc (.cells #[.int .u8 0, .int .u8 X] 5)) hown hg4 (by omega) (hal hpg)
      go_roundw
      case rel => exact ⟨j + 1, by go_num, by omega, hp', hr', by rw [hts, nums_snoc]; simpa [u8s, Nat.mul_add] using hown4, below_grown (below_al hbel _) (Nat.le_trans hbel.size (by simp)) (own_weaken hown (by omega)) hg4⟩
      case measure => simp [intOf]; omega
    · obtain rfl : j = n := by omega
      obtain ⟨g, c, rfl, hg, hgl⟩ := hown.form (by omega)
      have htk : xs.take j = xs := List.take_of_length_le (by have := Hxl.out; omega)
      rw [htk] at hown
      obtain ⟨N2, hN2⟩ : ∃ N2, N2 = 2 * j := ⟨_, rfl⟩
      rw [← hN2] at hown ⊢
      obtain ⟨M, hM⟩ : ∃ M, M = 240 - N2 := ⟨_, rfl⟩
      have hc1 := blk_cell hpg 1
      have hf1 := blk_free hpg 1
      have hz1 := lt_of_block hpg
      have hpg1 := heap_setCell_same wr (w.heap.size + 1) 1 _ _ (.int .i64 dep) hpg
      have hres1 := (heap_setCell_other wr ⟨w.heap.size + 1, 1, none⟩ (w.heap.size + 2) (.int .i64 dep) (show w.heap.size + 2 ≠ w.heap.size + 1 by omega)).trans hres
      have hbel1 := below_set (j := 1) (u := .int .i64 dep) hbel (show w.heap.size ≤ w.heap.size + 1 by omega)
      have hgW : g < (wr.setCell ⟨w.heap.size + 1, 1, none⟩ (.int .i64 dep)).heap.size := by simpa using hgl
      have hnl : (nums xs).length = N2 := by rw [nums_len, Hxl.out, hN2]
      have hcl1 : ∀ i, i < N2 → (wr.setCell ⟨w.heap.size + 1, 1, none⟩ (.int .i64 dep)).cell? ⟨g, i, none⟩ = some (.int .u8 ((nums xs).getD i 0)) := fun i hi => by
        rw [World.cell?_setCell_other _ _ _ _ (fun e => by injection e with e1; omega)]
        refine own_at hown i _ ?_
        rw [u8s, List.getElem?_map, List.getElem?_eq_getElem (by omega), List.getD_eq_getElem?_getD, List.getElem?_eq_getElem (by omega)]
        rfl
      obtain ⟨R, hR⟩ : ∃ R, R = strOfNums (nums xs) := ⟨_, rfl⟩
      have hRs : R.size = N2 := by rw [hR, strOfNums_size, hnl]
      have hcvW : ∀ W : World, (∀ i, i < N2 → W.cell? ⟨g, i, none⟩ = some (.int .u8 ((nums xs).getD i 0))) → (convert 43 9 (.slice (some ⟨g, 0, none⟩) N2 c)).run Tryz.prog W = .ok (.string R) W := fun W h => by
        rw [hR]
        exact run_convert_bytes_arg (P := Tryz.prog) W 43 5 Tryz.underlying43 Tryz.underlying5 g 0 N2 c (nums xs) hnl (fun i hi => by rw [Nat.zero_add]; exact h i hi) 9 Tryz.underlying9
      have hrp := fun W => Tryz.strings_Repeat ⟨#[0]⟩ M W (by omega) (by show 1 * M ≤ _; omega)
      obtain ⟨Z, hZ⟩ : ∃ Z, Z = str (zs M) := ⟨_, rfl⟩
      have hrp' : ∀ W, Calls Tryz.prog 186 #[.string ⟨#[0]⟩, .int .i64 M] W fun e w' => e = .returned (.string Z) ∧ Below W.heap.size W w' := fun W => (hrp W).mono (fun e w' h => ⟨by rw [h.1, hZ, zs, ← repeat_one], h.2⟩)
      have hZs : Z.size = M := by rw [hZ, str_size, zs, List.length_replicate]
      have r1 : IntKind.i64.wrap (240 - (N2 : Int)) = (M : Int) := by rw [IntWalk.i64_in _ (by omega)]; omega
      have hne : g ≠ w.heap.size + 1 := by omega
      have hN3 : N2 + M = 240 := by omega
      have HR := Lib.hid hR
      have HZ := Lib.hid hZ
      have HM := Lib.hid hM
      have HN2 := Lib.hid hN2
      clear hrp hR hZ hM hN2 hown
      have hrp := hrp'
      have HcvW := Lib.hid hcvW
      have Hcl1 := Lib.hid hcl1
      clear hrp' hcvW hcl1
      go_wp2_with fail
      refine wp_region_held_drew (S := fun W => (convert 43 9 (.slice (some ⟨g, 0, none⟩) N2 c)).run Tryz.prog W = .ok (.string R) W) (by kernel_rfl) (HcvW.out _ Hcl1.out) (fun hHeld => ?_)
      refine wpAnyH_take (i := 0) (v := ?_) rfl (by kernel_rfl) (by kernel_rfl) (by kernel_rfl) (fun _ _ _ h => h) (Or.inl ⟨by rfl, ?_⟩) hHeld ?_
      rotate_left
      · intro wq hSw
        try dsimp only at hSw
        go_simp
        try rw [if_neg (by omega)]
        try rw [if_pos (by omega)]
        try with_reducible rfl
      try simp only [Act.put, List.setIfInBounds_toArray, List.set_cons_zero, List.set_cons_succ]
      refine wpAnyH_take (i := 1) (v := ?_) rfl (by kernel_rfl) (by kernel_rfl) (by kernel_rfl) (fun _ _ _ h => h) (Or.inl ⟨by rfl, ?_⟩) hHeld ?_
      rotate_left
      · intro wq hSw
        try dsimp only at hSw
        go_simp
        try rw [if_neg (by omega)]
        try rw [if_pos (by omega)]
        try with_reducible rfl
      try simp only [Act.put, List.setIfInBounds_toArray, List.set_cons_zero, List.set_cons_succ]
      refine wpAnyH_take (i := 2) (v := ?_) rfl (by kernel_rfl) (by kernel_rfl) (by kernel_rfl) (fun _ _ _ h => h) (Or.inl ⟨by rfl, ?_⟩) hHeld ?_
      rotate_left
      · intro wq hSw
        try dsimp only at hSw
        go_simp
        try rw [if_neg (by omega)]
        try rw [if_pos (by omega)]
        try with_reducible rfl
      try simp only [Act.put, List.setIfInBounds_toArray, List.set_cons_zero, List.set_cons_succ]
      refine wpAnyH_take (i := 3) (v := ?_) rfl (by kernel_rfl) (by kernel_rfl) (by kernel_rfl) (fun _ _ _ h => h) (Or.inl ⟨by rfl, ?_⟩) hHeld ?_
      rotate_left
      · intro wq hSw
        try dsimp only at hSw
        go_simp
        try rw [if_neg (by omega)]
        try rw [if_pos (by omega)]
        try with_reducible rfl
      try simp only [Act.put, List.setIfInBounds_toArray, List.set_cons_zero, List.set_cons_succ]
      refine wpAnyH_take (i := 4) (v := ?_) rfl (by kernel_rfl) (by kernel_rfl) (by kernel_rfl) (fun _ _ _ h => h) (Or.inl ⟨by rfl, ?_⟩) hHeld ?_
      rotate_left
      · intro wq hSw
        try dsimp only at hSw
        go_simp
        try rw [if_neg (by omega)]
        try rw [if_pos (by omega)]
        try with_reducible rfl
      try simp only [Act.put, List.setIfInBounds_toArray, List.set_cons_zero, List.set_cons_succ]
      refine wpAnyH_ready (rs := [5]) (by kernel_rfl) (by simp) ?_
      refine AllReadyH.cons rfl (fun K hK => ?_) AllReadyH.nil
      go_simp
      with_reducible refine (hrp _).mono ?_
      rintro e w3 ⟨rfl, hb3⟩
      dsimp only
      have hb3' : Below (wr.setCell ⟨w.heap.size + 1, 1, none⟩ (.int .i64 dep)).heap.size (wr.setCell ⟨w.heap.size + 1, 1, none⟩ (.int .i64 dep)) w3 := ⟨hb3.os, hb3.tape, hb3.output, hb3.size, hb3.block⟩
      have hcl3 : Hid (∀ i, i < N2 → w3.cell? ⟨g, i, none⟩ = some (.int .u8 ((nums xs).getD i 0))) := fun i hi => (hb3'.cell (p := ⟨g, i, none⟩) hgW).trans (Hcl1.out i hi)
      have hpg3 := blk_keep hpg1 hb3'
      have hres3 := blk_keep hres1 hb3'
      have hbel3 := below_base hbel1 hbel1.size hb3'
      refine hK.out _ _ (HcvW.out _ hcl3.out) (fun hHeld2 => ?_)
      clear hK K
      try clear hHeld
      have hHeld := hHeld2
      try clear hHeld2
      refine wpAnyH_take (i := 6) (v := ?_) rfl (by kernel_rfl) (by kernel_rfl) (by kernel_rfl) (fun _ _ _ h => h) (Or.inl ⟨by rfl, ?_⟩) hHeld ?_
      rotate_left
      · intro wq hSw
        try dsimp only at hSw
        go_simp
        try rw [if_neg (by omega)]
        try rw [if_pos (by omega)]
        try with_reducible rfl
      try simp only [Act.put, List.setIfInBounds_toArray, List.set_cons_zero, List.set_cons_succ]
      refine wpAnyH_take (i := 7) (v := ?_) rfl (by kernel_rfl) (by kernel_rfl) (by kernel_rfl) (fun _ _ _ h => h) (Or.inl ⟨by rfl, ?_⟩) hHeld ?_
      rotate_left
      · intro wq hSw
        try dsimp only at hSw
        go_simp
        try rw [if_neg (by omega)]
        try rw [if_pos (by omega)]
        try with_reducible rfl
      try simp only [Act.put, List.setIfInBounds_toArray, List.set_cons_zero, List.set_cons_succ]
      have c3 := blk_cell hpg3 3
      have f3 := blk_free hpg3 3
      have z3 := lt_of_block hpg3
      refine wpAnyH_ready (rs := [8]) (by kernel_rfl) (by simp) ?_
      refine AllReadyH.cons rfl (fun K hK => ?_) AllReadyH.nil
      go_simp
      refine hK.out _ _ (HcvW.out _ (fun i hi => (World.cell?_setCell_other _ _ _ _ (fun e => by injection e with e1; omega)).trans (hcl3.out i hi))) (fun hHeld2 => ?_)
      clear hK K
      try clear hHeld
      have hHeld := hHeld2
      try clear hHeld2
      refine wpAnyH_done (by kernel_rfl) ?_ _
      have hpg4 := heap_setCell_same w3 (w.heap.size + 1) 3 _ _ (.string (R ++ Z)) hpg3
      have hres4 := (heap_setCell_other w3 ⟨w.heap.size + 1, 3, none⟩ (w.heap.size + 2) (.string (R ++ Z)) (show w.heap.size + 2 ≠ w.heap.size + 1 by omega)).trans hres3
      have hbel4 := below_set (j := 3) (u := .string (R ++ Z)) hbel3 (show w.heap.size ≤ w.heap.size + 1 by omega)
      have hRZ : Hid (R ++ Z = str (bodyOf xs)) := by
        show _ = _
        rw [HR.out, HZ.out, bodyOf, encL, strOfNums]
        apply ByteArray.ext
        apply Array.toList_inj.1
        have := Hxl.out
        simp [ByteArray.data_append, HM.out, HN2.out, this]
      clear hcl3 hpg3 hres3 hbel3 hb3 hb3' c3 f3 z3 hHeld hrp
      generalize w3.setCell ⟨w.heap.size + 1, 3, none⟩ (.string (R ++ Z)) = W4 at *
      obtain ⟨T, hT⟩ : ∃ T, T = R ++ Z := ⟨_, rfl⟩
      rw [← hT] at hpg4
      have k0 := blk_cell hpg4
      have k1 := lt_of_block hpg4
      have k2 := blk_cell hres4
      have k3 := blk_free hres4
      have k4 := lt_of_block hres4
      have HTT := Lib.hid hT
      clear hT
      go_wp2
      have hW : (set4 W4 (w.heap.size + 2) (.int .i64 k) (.int .i64 dep) (.int .i64 x) (.string T)).heap[w.heap.size + 2]? = _ := set4_same hres4 (.int .i64 k) (.int .i64 dep) (.int .i64 x) (.string T)
      have hB := below_set4 hbel4 (show w.heap.size ≤ w.heap.size + 2 by omega) (.int .i64 k) (.int .i64 dep) (.int .i64 x) (.string T)
      change bodyPost _ _ _ _ _ (set4 W4 (w.heap.size + 2) (.int .i64 k) (.int .i64 dep) (.int .i64 x) (.string T))
      generalize set4 W4 (w.heap.size + 2) (.int .i64 k) (.int .i64 dep) (.int .i64 x) (.string T) = W5 at *
      have j0 := blk_cell hW 0
      have j1 := blk_cell hW 1
      have j2 := blk_cell hW 2
      have j3 := blk_cell hW 3
      rw [HTT.out, hRZ.out] at j3
      clear hW k0 k2 k3
      refine bodyPost_ret (v := .agg #[.int .i64 k, .int .i64 dep, .int .i64 x, .string (str (bodyOf xs))]) ?_ rfl ⟨rfl, hB⟩
      rw [HTT.out, hRZ.out]
      generalize str (bodyOf xs) = Y at *
      simp [results, Tryz.results164, go_sem, j0, j1, j2, j3]
end Go.Proofs.YtijhamllnnilbaaGreatDoor.Dr
