/- Lemmas of the claim, in their order:
- copy(d, s) at elements of k cells, onto a block that is all there. No program in sight.
- The contracts of dir's All, Depth, At.
- The contract of dir's New; what a page of entries reads as.
- The contract of dir's Halve.
- The contract of the entries' set.
- The contract of a group's Get.
- The contracts of a group's Put, Bytes.
- The contract of space.Give.
- The contracts of a group's Take, Give, Free.
- The contract of blob.Pages.
-/
import Derived.Test.YtijhamllnnilbaaGreatDoorU01
import Derived.Laws.CopyRow
import Derived.Test.YtijhamllnnilbaaGreatDoorU10
import Derived.Deep.QuietTactic
import Derived.BigQuiet
import Derived.Test.YtijhamllnnilbaaGreatDoorU13
import Derived.Test.YtijhamllnnilbaaGreatDoorU05
set_option linter.unusedVariables false
set_option linter.unusedSimpArgs false
namespace Go.Proofs.YtijhamllnnilbaaGreatDoor.Ha
open Go.RowKit Go.Proofs.YtijhamllnnilbaaGreatDoor.Mem
end Go.Proofs.YtijhamllnnilbaaGreatDoor.Ha
namespace Go.Proofs.YtijhamllnnilbaaGreatDoor.Dr
open Go.RowKit Go.Proofs.YtijhamllnnilbaaGreatDoor.Mem Go.Proofs.YtijhamllnnilbaaGreatDoor.Pg

def AllPost (w : World) (k d : Int) (l : List UInt8) (e : Ending) (w' : World) : Prop :=
  (∃ n g cap, IsDir k d l n ∧ e = .returned (.slice (some ⟨g, 0, none⟩) n cap) ∧ w'.ownsRow w.heap.size 3 1 (.slice (some ⟨g, 0, none⟩) n cap) n (ints (ents l n)) ∧ g < w'.heap.size ∧ w.heap.size ≤ g ∧ Below w.heap.size w w') ∨
  ((∀ n, ¬ IsDir k d l n) ∧ e = .returned (.slice none 0 0) ∧ Below w.heap.size w w')
theorem al_le (w : World) (o : Obj) : w.heap.size ≤ (w.alloc o).heap.size := by simp
theorem below_box {w w1 : World} {o : Obj} (hb : Below (w.alloc o).heap.size (w.alloc o) w1) : Below w.heap.size w w1 := below_base (below_al (Below.refl _ w) o) (al_le w o) hb

set_option maxRecDepth 100000 in
set_option maxHeartbeats 2000000 in
theorem all_any (k d x : Int) (l : List UInt8) (w : World) :
    Calls Tryz.prog 147 #[.agg #[.int .i64 k, .int .i64 d, .int .i64 x, .string (str l)]] w (AllPost w k d l) := by
  have hof := fun w => of_any k d x l w
  generalize str l = S at *
  go_enter Tryz.func147, Tryz.ntmps147
  go_wp2_with fail
  with_reducible refine (hof _).mono ?_
  clear hof
  rintro e w1 (⟨n, g, cap, hd, rfl, hown, hgl, hgb, hb⟩ | ⟨hno, rfl, hb⟩)
  · go_wp2
    go_ret
    exact .inl ⟨n, g, cap, hd, rfl, own_weaken (hown.alloc _) (al_le _ _), lt_al hgl _, Nat.le_trans (al_le _ _) hgb, below_al (below_box hb) _⟩
  · have Hno := Lib.hid hno
    clear hno
    go_wp2
    go_ret
    exact .inr ⟨Hno.out, rfl, below_al (below_box hb) _⟩

set_option maxRecDepth 100000 in
set_option maxHeartbeats 2000000 in
theorem depth_any (k d x : Int) (l : List UInt8) (w : World) :
    Calls Tryz.prog 132 #[.agg #[.int .i64 k, .int .i64 d, .int .i64 x, .string (str l)]] w fun e w' =>
      ((∃ n, IsDir k d l n) ∧ e = .returned (.int .i64 d) ∨ (∀ n, ¬ IsDir k d l n) ∧ e = .returned (.int .i64 (-1))) ∧ Below w.heap.size w w' := by
  have hof := fun w => of_any k d x l w
  generalize hS : str l = S at *
  clear hS
  go_enter Tryz.func132, Tryz.ntmps132
  go_wp2_with fail
  with_reducible refine (hof _).mono ?_
  clear hof
  rintro e w1 (⟨n, g, cap, hd, rfl, hown, hgl, hgb, hb⟩ | ⟨hno, rfl, hb⟩)
  · have Hd := Lib.hid hd
    have hcb := blk_cell (blk_below hb)
    have hlb := lt_of_block (blk_below hb)
    clear hd hown
    go_wp2
    go_ret
    exact ⟨.inl ⟨⟨n, Hd.out⟩, rfl⟩, below_al (below_box hb) _⟩
  · have Hno := Lib.hid hno
    clear hno
    go_wp2
    go_ret
    exact ⟨.inr ⟨Hno.out, rfl⟩, below_al (below_box hb) _⟩

def AtPost (w : World) (k d : Int) (l : List UInt8) (bits : Int) (e : Ending) (w' : World) : Prop :=
  ((∃ n i : Nat, IsDir k d l n ∧ bits = i ∧ i < n ∧ e = .returned (.tuple #[.int .i64 (ent l i), .bool true])) ∨ ((∀ n, IsDir k d l n → bits < 0 ∨ n ≤ bits) ∧ e = .returned (.tuple #[.int .i64 0, .bool false]))) ∧ Below w.heap.size w w'
theorem isDir_same {k d : Int} {l : List UInt8} {n m : Nat} (h : IsDir k d l n) (h' : IsDir k d l m) : n = m := h.size.trans h'.size.symm

set_option maxRecDepth 100000 in
set_option maxHeartbeats 2000000 in
theorem at_any (k d x : Int) (l : List UInt8) (bits : Int) (w : World) :
    Calls Tryz.prog 133 #[.agg #[.int .i64 k, .int .i64 d, .int .i64 x, .string (str l)], .int .i64 bits] w (AtPost w k d l bits) := by
  have hof := fun w => all_any k d x l w
  generalize str l = S at *
  go_enter Tryz.func133, Tryz.ntmps133
  go_wp2_with fail
  with_reducible refine (hof _).mono ?_
  clear hof
  rintro e w1 (⟨n, g, cap, hd, rfl, hown, hgl, hgb, hb⟩ | ⟨hno, rfl, hb⟩)
  · by_cases h1 : bits < 0
    · have hpost : Hid (∀ m, IsDir k d l m → bits < 0 ∨ m ≤ bits) := fun m _ => .inl h1
      clear hd hown
      go_wp2
      go_ret2
      exact ⟨.inr ⟨hpost.out, rfl⟩, below_box hb⟩
    · obtain ⟨i, rfl⟩ := Int.eq_ofNat_of_zero_le (show 0 ≤ bits from by omega)
      by_cases h2 : i < n
      · have hce := own_at hown i (.int .i64 (ent l i)) (by simp [ints, ents, h2])
        have Hd := Lib.hid hd
        obtain ⟨X, hX⟩ : ∃ X, X = ent l i := ⟨_, rfl⟩
        rw [← hX] at hce
        have HX := Lib.hid hX
        clear hd hown hX
        go_wp2
        go_ret2
        exact ⟨.inl ⟨n, i, Hd.out, rfl, h2, by rw [← HX.out]; rfl⟩, below_box hb⟩
      · have hpost : Hid (∀ m, IsDir k d l m → (i : Int) < 0 ∨ (m : Int) ≤ i) := fun m hm => by have := isDir_same hd hm; omega
        clear hd hown
        go_wp2
        go_ret2
        exact ⟨.inr ⟨hpost.out, rfl⟩, below_box hb⟩
  · have hpost : Hid (∀ m, IsDir k d l m → bits < 0 ∨ m ≤ bits) := fun m hm => absurd hm (hno m)
    clear hno
    go_wp2
    all_goals go_ret2
    all_goals exact ⟨.inr ⟨hpost.out, rfl⟩, below_box hb⟩
end Go.Proofs.YtijhamllnnilbaaGreatDoor.Dr
namespace Go.Proofs.YtijhamllnnilbaaGreatDoor.Dr
open Go.RowKit Go.Proofs.YtijhamllnnilbaaGreatDoor.Mem Go.Proofs.YtijhamllnnilbaaGreatDoor.Pg

theorem nums_get (xs : List Int) : ∀ i, i < xs.length → (nums xs).getD (2 * i) 0 = 0 ∧ (nums xs).getD (2 * i + 1) 0 = xs.getD i 0 := by
  induction xs with
  | nil => intro i h; simp at h
  | cons x xs ih =>
    intro i h
    cases i with
    | zero => exact ⟨rfl, rfl⟩
    | succ i =>
      have := ih i (by simpa using h)
      rw [show 2 * (i + 1) = 2 * i + 2 from by omega]
      exact this
theorem ent_body (xs : List Int) (hm : ∀ y ∈ xs, mayP y) (i : Nat) (h : i < xs.length) : ent (bodyOf xs) i = xs.getD i 0 := by
  have hl : (nums xs).length = 2 * xs.length := nums_len xs
  have hg : ∀ j, j < 2 * xs.length → bt (bodyOf xs) j = (UInt8.ofNat ((nums xs).getD j 0).toNat).toNat := fun j hj => by
    unfold bt bodyOf encL
    rw [List.getD_eq_getElem?_getD, List.getElem?_append_left (by rw [List.length_map]; omega), List.getElem?_map, List.getElem?_eq_getElem (by omega), List.getD_eq_getElem?_getD, List.getElem?_eq_getElem (by omega)]
    rfl
  obtain ⟨h1, h2⟩ := nums_get xs i h
  have hy : mayP (xs.getD i 0) := hm _ (List.mem_iff_getElem?.2 ⟨i, by rw [List.getD_eq_getElem?_getD, List.getElem?_eq_getElem h, Option.getD_some]⟩)
  obtain ⟨y1, y2⟩ : 2 ≤ xs.getD i 0 ∧ xs.getD i 0 < 64 := hy
  unfold ent
  rw [hg _ (by omega), hg _ (by omega), h1, h2]
  generalize xs.getD i 0 = y at *
  obtain ⟨n, rfl⟩ := Int.eq_ofNat_of_zero_le (show 0 ≤ y from by omega)
  have : (UInt8.ofNat ((n : Int).toNat)).toNat = n := by
    rw [Int.toNat_natCast, UInt8.toNat_ofNat']
    omega
  rw [this]
  simp
theorem ents_body (xs : List Int) (hm : ∀ y ∈ xs, mayP y) : ents (bodyOf xs) xs.length = xs := by
  refine List.ext_getElem (by simp [ents]) fun i h1 h2 => ?_
  have := ent_body xs hm i h2
  simp only [ents, List.getElem_map, List.getElem_range]
  rw [this, List.getD_eq_getElem?_getD, List.getElem?_eq_getElem h2, Option.getD_some]
theorem body_len (xs : List Int) (h : xs.length ≤ 120) : (bodyOf xs).length = 240 := by
  rw [bodyOf, List.length_append, encL_len, zs, List.length_replicate]
  omega
theorem isDir_body (xs : List Int) (hm : ∀ y ∈ xs, mayP y) (d : Nat) (hd : d ≤ 5) (hn : xs.length = 2 ^ d) : IsDir 1 d (bodyOf xs) xs.length := by
  have h32 : xs.length ≤ 32 := by
    rw [hn]
    exact (pow_small d hd).2.2
  refine ⟨rfl, by omega, by omega, body_len xs (by omega), by rw [hn, Int.toNat_natCast], fun i hi => ?_, ?_⟩
  · rw [ent_body xs hm i hi]
    exact hm _ (List.mem_iff_getElem?.2 ⟨i, by rw [List.getD_eq_getElem?_getD, List.getElem?_eq_getElem hi, Option.getD_some]⟩)
  · intro c hc
    rw [bodyOf, List.drop_append_of_le_length (by rw [encL_len]; omega), List.drop_of_length_le (by rw [encL_len]; omega), List.nil_append] at hc
    exact (List.mem_replicate.1 hc).2

set_option maxRecDepth 100000 in
set_option maxHeartbeats 2000000 in
theorem new_yes (n : Int) (w : World) (hn : mayP n) :
    Calls Tryz.prog 83 #[.int .i64 n] w fun e w' => e = .returned (.tuple #[.agg #[.int .i64 1, .int .i64 0, .int .i64 0, .string (str (bodyOf [n]))], .bool true]) ∧ Below w.heap.size w w' := by
  have hma := fun w => may_any n w
  rw [show mayB n = true from decide_eq_true hn] at hma
  have hem := fun w => empty_any 1 0 w
  have hpa := fun W g cap (hz : Ints W (some ⟨g, 0, none⟩) 1 [n]) => page_any 1 0 0 0 0 (str (zs 240)) (some ⟨g, 0, none⟩) 1 cap [n] W hz (fun y hy => by simp at hy; subst hy; exact hn) (by omega) (by omega)
  obtain ⟨Y, hY⟩ : ∃ Y, Y = str (bodyOf [n]) := ⟨_, rfl⟩
  obtain ⟨Z, hZ⟩ : ∃ Z, Z = str (zs 240) := ⟨_, rfl⟩
  simp only [← hZ, ← hY] at hem hpa ⊢
  clear hZ hY
  have Hpa := Lib.hid hpa
  clear hpa
  go_enter Tryz.func83, Tryz.ntmps83
  go_wp2_with fail
  with_reducible refine (hma _).mono ?_
  rintro e w1 ⟨rfl, hw⟩
  subst hw
  clear hma
  go_wp2_with fail
  with_reducible refine (hem _).mono ?_
  rintro e w2 ⟨rfl, hb2⟩
  clear hem
  have hint : Ints w2 (some ⟨w.heap.size + 1, 0, none⟩) 1 [n] := by
    refine ⟨rfl, by omega, fun _ => ⟨w.heap.size + 1, 0, rfl, ?_, fun j hj => ?_⟩⟩
    · have := hb2.size
      simp at this
      omega
    · obtain rfl : j = 0 := by omega
      exact blk_cell (blk2_below hb2).2 0
  have hres2 := (blk2_below hb2).1
  have hbel2 : Below w.heap.size w w2 := below_box (below_box hb2)
  clear hb2
  go_wp2_with fail
  with_reducible refine (Hpa.out _ _ _ hint).mono ?_
  rintro e w3 ⟨rfl, hb3⟩
  have hres3 := blk_keep hres2 hb3
  have hbel3 := below_base hbel2 hbel2.size hb3
  have hc3 := blk_cell hres3
  have hf3 := blk_free hres3
  have hz3 := lt_of_block hres3
  clear hb3 hres2 hbel2 hint
  go_wp2
  have hW : (set4 w3 (w.heap.size) (.int .i64 1) (.int .i64 0) (.int .i64 0) (.string Y)).heap[w.heap.size]? = _ := set4_same hres3 (.int .i64 1) (.int .i64 0) (.int .i64 0) (.string Y)
  have hB := below_set4 hbel3 (Nat.le_refl _) (.int .i64 1) (.int .i64 0) (.int .i64 0) (.string Y)
  change bodyPost _ _ _ _ _ (set4 w3 (w.heap.size) (.int .i64 1) (.int .i64 0) (.int .i64 0) (.string Y))
  generalize set4 w3 (w.heap.size) (.int .i64 1) (.int .i64 0) (.int .i64 0) (.string Y) = WF at *
  have j0 := blk_cell hW 0
  have j1 := blk_cell hW 1
  have j2 := blk_cell hW 2
  have j3 := blk_cell hW 3
  clear hW hc3 hf3
  refine bodyPost_ret (v := .tuple #[.agg #[.int .i64 1, .int .i64 0, .int .i64 0, .string Y], .bool true]) ?_ rfl (⟨rfl, hB⟩)
  simp [results, Tryz.results83, go_sem, j0, j1, j2, j3]
end Go.Proofs.YtijhamllnnilbaaGreatDoor.Dr
namespace Go.Proofs.YtijhamllnnilbaaGreatDoor.Dr
open Go.RowKit Go.Proofs.YtijhamllnnilbaaGreatDoor.Mem Go.Proofs.YtijhamllnnilbaaGreatDoor.Pg

end Go.Proofs.YtijhamllnnilbaaGreatDoor.Dr
namespace Go.Proofs.YtijhamllnnilbaaGreatDoor.Dr
open Go.RowKit Go.Proofs.YtijhamllnnilbaaGreatDoor.Mem Go.Proofs.YtijhamllnnilbaaGreatDoor.Pg

set_option maxRecDepth 100000 in
set_option maxHeartbeats 4000000 in
theorem setOne_any (eb g n cap i : Nat) (v u : Int) (w : World) (h0 : w.cell? ⟨eb, 0, none⟩ = some (.slice (some ⟨g, 0, none⟩) n cap)) (h1 : w.cell? ⟨eb, 1, none⟩ = some (.int .i64 v)) (hi : i < n) (hn : n ≤ 1000)
    (hc : w.cell? ⟨g, i, none⟩ = some (.int .i64 u)) (hf : w.frozen? ⟨g, i, none⟩ = false) (hne : g ≠ eb) :
    Calls Tryz.prog 199 #[.pointer (some ⟨eb, 0, none⟩), .int .i64 i] w fun e w' => e = .returned (.tuple #[]) ∧ w' = (w.setCell ⟨g, i, none⟩ (.int .i64 v)).drew := by
  have i1 : (i : Int) < (n : Int) := by omega
  go_enter Tryz.func199, Tryz.ntmps199
  go_wp2_with fail
  refine wp_region_held_drew (S := fun w' => w'.cell? ⟨eb, 0, none⟩ = some (.slice (some ⟨g, 0, none⟩) n cap) ∧ w'.cell? ⟨eb, 1, none⟩ = some (.int .i64 v)) (by kernel_rfl) (⟨h0, h1⟩) (fun hHeld => ?_)
  refine wpAnyH_take (i := 0) (v := ?_) rfl (by kernel_rfl) (by kernel_rfl) (by kernel_rfl) (fun _ _ _ h => h) (Or.inl ⟨by rfl, ?_⟩) hHeld ?_
  rotate_left
  · intro wq hSw
    try dsimp only at hSw
    go_simp
    try rw [if_neg (by omega)]
    try rw [if_pos (by omega)]
    try with_reducible rfl
  try simp only [Act.put, List.setIfInBounds_toArray, List.set_cons_zero, List.set_cons_succ]
  refine wpAnyH_take (i := 1) (v := ?_) rfl (by kernel_rfl) (by kernel_rfl) (by kernel_rfl) (fun _ _ _ h => h) (Or.inl ⟨by rfl, ?_⟩) hHeld ?_
  rotate_left
  · intro wq hSw
    try dsimp only at hSw
    go_simp
    try rw [if_neg (by omega)]
    try rw [if_pos (by omega)]
    try with_reducible rfl
  try simp only [Act.put, List.setIfInBounds_toArray, List.set_cons_zero, List.set_cons_succ]
  refine wpAnyH_take (i := 2) (v := ?_) rfl (by kernel_rfl) (by kernel_rfl) (by kernel_rfl) (fun _ _ _ h => h) (Or.inl ⟨by rfl, ?_⟩) hHeld ?_
  rotate_left
  · intro wq hSw
    try dsimp only at hSw
    go_simp
    try rw [if_neg (by omega)]
    try rw [if_pos (by omega)]
    try with_reducible rfl
  try simp only [Act.put, List.setIfInBounds_toArray, List.set_cons_zero, List.set_cons_succ]
  refine wpAnyH_take (i := 3) (v := ?_) rfl (by kernel_rfl) (by kernel_rfl) (by kernel_rfl) (fun _ _ _ h => h) (Or.inl ⟨by rfl, ?_⟩) hHeld ?_
  rotate_left
  · intro wq hSw
    try dsimp only at hSw
    go_simp
    try rw [if_neg (by omega)]
    try rw [if_pos (by omega)]
    try with_reducible rfl
  try simp only [Act.put, List.setIfInBounds_toArray, List.set_cons_zero, List.set_cons_succ]
  refine wpAnyH_take (i := 4) (v := ?_) rfl (by kernel_rfl) (by kernel_rfl) (by kernel_rfl) (fun _ _ _ h => h) (Or.inl ⟨by rfl, ?_⟩) hHeld ?_
  rotate_left
  · intro wq hSw
    try dsimp only at hSw
    go_simp
    try rw [if_neg (by omega)]
    try rw [if_pos (by omega)]
    try with_reducible rfl
  try simp only [Act.put, List.setIfInBounds_toArray, List.set_cons_zero, List.set_cons_succ]
  refine wpAnyH_take (i := 5) (v := ?_) rfl (by kernel_rfl) (by kernel_rfl) (by kernel_rfl) (fun _ _ _ h => h) (Or.inl ⟨by rfl, ?_⟩) hHeld ?_
  rotate_left
  · intro wq hSw
    try dsimp only at hSw
    go_simp
    try rw [if_neg (by omega)]
    try rw [if_pos (by omega)]
    try with_reducible rfl
  try simp only [Act.put, List.setIfInBounds_toArray, List.set_cons_zero, List.set_cons_succ]
  refine wpAnyH_take (i := 6) (v := ?_) rfl (by kernel_rfl) (by kernel_rfl) (by kernel_rfl) (fun _ _ _ h => h) (Or.inl ⟨by rfl, ?_⟩) hHeld ?_
  rotate_left
  · intro wq hSw
    try dsimp only at hSw
    go_simp
    try rw [if_neg (by omega)]
    try rw [if_pos (by omega)]
    try with_reducible rfl
  try simp only [Act.put, List.setIfInBounds_toArray, List.set_cons_zero, List.set_cons_succ]
  refine wpAnyH_take (i := 7) (v := ?_) rfl (by kernel_rfl) (by kernel_rfl) (by kernel_rfl) (fun _ _ _ h => h) (Or.inl ⟨by rfl, ?_⟩) hHeld ?_
  rotate_left
  · intro wq hSw
    try dsimp only at hSw
    go_simp
    try rw [if_neg (by omega)]
    try rw [if_pos (by omega)]
    try with_reducible rfl
  try simp only [Act.put, List.setIfInBounds_toArray, List.set_cons_zero, List.set_cons_succ]
  refine wpAnyH_take (i := 8) (v := ?_) rfl (by kernel_rfl) (by kernel_rfl) (by kernel_rfl) (fun _ _ _ h => h) (Or.inl ⟨by rfl, ?_⟩) hHeld ?_
  rotate_left
  · intro wq hSw
    try dsimp only at hSw
    go_simp
    try rw [if_neg (by omega)]
    try rw [if_pos (by omega)]
    try with_reducible rfl
  try simp only [Act.put, List.setIfInBounds_toArray, List.set_cons_zero, List.set_cons_succ]
  refine wpAnyH_take (i := 9) (v := ?_) rfl (by kernel_rfl) (by kernel_rfl) (by kernel_rfl) (fun _ _ _ h => h) (Or.inl ⟨by rfl, ?_⟩) hHeld ?_
  rotate_left
  · intro wq hSw
    try dsimp only at hSw
    go_simp
    try rw [if_neg (by omega)]
    try rw [if_pos (by omega)]
    try with_reducible rfl
  try simp only [Act.put, List.setIfInBounds_toArray, List.set_cons_zero, List.set_cons_succ]
  refine wpAnyH_ready (rs := [10]) (by kernel_rfl) (by simp) ?_
  refine AllReadyH.cons rfl (fun K hK => ?_) AllReadyH.nil
  go_simp
  refine hK.out _ _ (⟨(World.cell?_setCell_other _ _ _ _ (fun e => by injection e with e1; omega)).trans hHeld.1, (World.cell?_setCell_other _ _ _ _ (fun e => by injection e with e1; omega)).trans hHeld.2⟩) (fun hHeld2 => ?_)
  clear hK K
  try clear hHeld
  have hHeld := hHeld2
  try clear hHeld2
  refine wpAnyH_done (by kernel_rfl) ?_ _
  go_end0
  exact ⟨rfl, rfl⟩
end Go.Proofs.YtijhamllnnilbaaGreatDoor.Dr
namespace Go.Proofs.YtijhamllnnilbaaGreatDoor.Gr
open Go.RowKit Go.Proofs.YtijhamllnnilbaaGreatDoor.Mem Go.Proofs.YtijhamllnnilbaaGreatDoor.Pg Go.Proofs.YtijhamllnnilbaaGreatDoor.Kp
set_option linter.unusedSimpArgs false
set_option linter.unusedVariables false

/-- What a group shows as bytes, and the error. -/
def seen (n : Nat) (dead : Int) (B : Nat → List UInt8) (M : Int → Option (List UInt8)) (i : Int) : List UInt8 × Int := match M i with
  | some b => (b, 0)
  | none => rd n dead B i
set_option maxRecDepth 100000 in
set_option maxHeartbeats 2000000 in
theorem gget_any (w : World) (gb mb sb qb n c : Nat) (dead : Int) (B : Nat → List UInt8) (M : Int → Option (List UInt8)) (tk i : Int) (hi : (Lit.int .i64 i).wf = true) (ht : Tab w) (hs : Sto w sb qb n c dead B) (hg : Grp w gb mb sb M tk) (b : List UInt8) (p : Pag) (h : seen n dead B M i = (b, 0)) (hp : Shows b p) :
    Calls Tryz.prog 64 #[.pointer (some ⟨gb, 0, none⟩), .int .i64 i] w fun e w' => e = .returned (.tuple #[p.v, .int .i64 0]) ∧ Below w.heap.size w w' := by
  have hlk := fun W (k : MapIs W mb M) => k.look i hi
  have hk4 := heap_alloc_new w (.cells #[.int .i64 0, .int .i64 0, .int .i64 0, .string ⟨#[]⟩] 113)
  have ht1 := ht.alloc (.cells #[.int .i64 0, .int .i64 0, .int .i64 0, .string ⟨#[]⟩] 113)
  have hb1 := below_al (Below.refl _ w) (.cells #[.int .i64 0, .int .i64 0, .int .i64 0, .string ⟨#[]⟩] 113)
  have hg1 := hg.below hb1
  have hs1 := hs.below hb1
  have cg := blk_cell hg1.grp
  have zg := hg1.lt1
  have hrun := hlk _ hg1.map
  have Hs1 := Lib.hid hs1
  have Hg1 := Lib.hid hg1
  have H4 := Lib.hid hk4
  have HT := Lib.hid ht1
  have HB := Lib.hid hb1
  have hrd := fun W (k : Sto W sb qb n c dead B) => read_any W sb qb n c dead B i k
  have hget := fun W (k : Tab W) => get_any b p W k hp
  obtain ⟨S, hS⟩ : ∃ S, S = str b := ⟨_, rfl⟩
  obtain ⟨k, d, x, l⟩ := p
  simp only [Pag.v] at hget ⊢
  obtain ⟨T, hT⟩ : ∃ T, T = str l := ⟨_, rfl⟩
  rw [← hS, ← hT] at hget
  rw [← hT]
  unfold seen at h
  clear hk4 ht1 hb1 hg1 hs1 hs hg ht hp hT
  rcases e : M i with _ | b'
  · rw [e] at h hrun
    simp only [Option.getD_none, Option.isSome_none] at h hrun
    simp only [h, ← hS] at hrd
    clear e h hS
    go_enter Tryz.func64, Tryz.ntmps64
    go_wp2_with fail
    with_reducible refine (hrd _ Hs1.out).mono ?_
    rintro e w1 ⟨rfl, rfl⟩
    go_wp2_with fail
    with_reducible refine (hget _ HT.out).mono ?_
    rintro e w2 ⟨rfl, hb2⟩
    have q4 := blk_keep H4.out hb2
    have hbb := below_tr HB.out hb2
    have c4 := blk_cell q4
    have f4 := blk_free q4
    have z4 := lt_of_block q4
    have q9 := heap_alloc_new w2 (.cells #[.int .i64 k, .int .i64 d, .int .i64 x, .string T] 113)
    have hne : w2.heap.size ≠ w.heap.size := by omega
    have c9 := blk_cell q9
    have c5 := blk_cell (hal (o := .cells #[.int .i64 k, .int .i64 d, .int .i64 x, .string T] 113) (set4_same q4 (.int .i64 k) (.int .i64 d) (.int .i64 x) (.string T)))
    clear q4 q9 hb2 cg zg hrun
    go_wp2_with fail
    refine bodyPost_ret (v := .tuple #[.agg #[.int .i64 k, .int .i64 d, .int .i64 x, .string T], .int .i64 0]) (by simp [results, Tryz.results64, go_sem, c5]) rfl ⟨rfl, ?_⟩
    exact below_al (below_set4 hbb (Nat.le_refl _) _ _ _ _) _
  · rw [e] at h hrun
    simp only [Option.getD_some, Option.isSome_some, Prod.mk.injEq, and_true] at h hrun
    subst h
    rw [← hS] at hrun
    clear e hS hrd
    go_enter Tryz.func64, Tryz.ntmps64
    go_wp2_with fail
    with_reducible refine (hget _ HT.out).mono ?_
    rintro e w2 ⟨rfl, hb2⟩
    have q4 := blk_keep H4.out hb2
    have hbb := below_tr HB.out hb2
    have c4 := blk_cell q4
    have f4 := blk_free q4
    have z4 := lt_of_block q4
    have q9 := heap_alloc_new w2 (.cells #[.int .i64 k, .int .i64 d, .int .i64 x, .string T] 113)
    have hne : w2.heap.size ≠ w.heap.size := by omega
    have c9 := blk_cell q9
    have c5 := blk_cell (hal (o := .cells #[.int .i64 k, .int .i64 d, .int .i64 x, .string T] 113) (set4_same q4 (.int .i64 k) (.int .i64 d) (.int .i64 x) (.string T)))
    clear q4 q9 hb2 cg zg hrun
    go_wp2_with fail
    refine bodyPost_ret (v := .tuple #[.agg #[.int .i64 k, .int .i64 d, .int .i64 x, .string T], .int .i64 0]) (by simp [results, Tryz.results64, go_sem, c5]) rfl ⟨rfl, ?_⟩
    exact below_al (below_set4 hbb (Nat.le_refl _) _ _ _ _) _

end Go.Proofs.YtijhamllnnilbaaGreatDoor.Gr
namespace Go.Proofs.YtijhamllnnilbaaGreatDoor.Gr
open Go.RowKit Go.Proofs.YtijhamllnnilbaaGreatDoor.Mem Go.Proofs.YtijhamllnnilbaaGreatDoor.Pg Go.Proofs.YtijhamllnnilbaaGreatDoor.Kp
set_option linter.unusedSimpArgs false
set_option linter.unusedVariables false

end Go.Proofs.YtijhamllnnilbaaGreatDoor.Gr
namespace Go.Proofs.YtijhamllnnilbaaGreatDoor.Sp
open Go.RowKit Go.Proofs.YtijhamllnnilbaaGreatDoor.Mem Go.Proofs.YtijhamllnnilbaaGreatDoor.Pg

end Go.Proofs.YtijhamllnnilbaaGreatDoor.Sp
namespace Go.Proofs.YtijhamllnnilbaaGreatDoor.Gr
open Go.RowKit Go.Proofs.YtijhamllnnilbaaGreatDoor.Mem Go.Proofs.YtijhamllnnilbaaGreatDoor.Pg Go.Proofs.YtijhamllnnilbaaGreatDoor.Kp Go.Proofs.YtijhamllnnilbaaGreatDoor.Sp
set_option linter.unusedSimpArgs false
set_option linter.unusedVariables false

end Go.Proofs.YtijhamllnnilbaaGreatDoor.Gr
namespace Go.Proofs.YtijhamllnnilbaaGreatDoor.Bl
open Go.RowKit Go.Proofs.YtijhamllnnilbaaGreatDoor.Mem Go.Proofs.YtijhamllnnilbaaGreatDoor.Pg

/-- How many pages a value of n bytes takes. -/
def pgN (n : Nat) : Nat := if n ≤ 40 ∨ 400 < n then 0 else (n + 199) / 200
theorem pgN_le (n : Nat) : pgN n ≤ 2 := by unfold pgN; split <;> omega

theorem blobPages_any (n : Nat) (w : World) (hn : n ≤ 1000000) :
    Calls Tryz.prog 72 #[.int .i64 n] w fun e w' => e = .returned (.int .i64 (pgN n)) ∧ w' = w := by
  by_cases h1 : n ≤ 40
  · have d1 : decide ((n : Int) ≤ 40) = true := by simp; omega
    go_enter Tryz.func72, Tryz.ntmps72
    go_wp2
    go_ret
    exact ⟨by unfold pgN; rw [if_pos (.inl h1)]; rfl, rfl⟩
  · have d1 : decide ((n : Int) ≤ 40) = false := by simp; omega
    by_cases h2 : 400 < n
    · have d2 : decide ((400 : Int) < (n : Int)) = true := by simp; omega
      go_enter Tryz.func72, Tryz.ntmps72
      go_wp2
      go_ret
      exact ⟨by unfold pgN; rw [if_pos (.inr h2)]; rfl, rfl⟩
    · have d2 : decide ((400 : Int) < (n : Int)) = false := by simp; omega
      have hd : ((n : Int) + 200 - 1).tdiv 200 = ((pgN n : Nat) : Int) := by
        unfold pgN
        rw [if_neg (by omega), Int.tdiv_eq_ediv_of_nonneg (by omega)]
        omega
      have hd2 : ((n : Int) + 200 - 1) / 200 = ((pgN n : Nat) : Int) := by
        unfold pgN
        rw [if_neg (by omega)]
        omega
      have hd3 : wrap64 ((pgN n : Nat) : Int) = ((pgN n : Nat) : Int) := IntWalk.wrap64_in _ (by have := pgN_le n; omega)
      go_enter Tryz.func72, Tryz.ntmps72
      go_wp2
      go_ret
      exact ⟨by first | rfl | (rw [h0]; rfl), rfl⟩
/-- The same at whatever number. -/
def pgI (z : Int) : Nat := if z ≤ 40 ∨ 400 < z then 0 else ((z + 199) / 200).toNat
theorem pgI_nat (n : Nat) : pgI n = pgN n := by unfold pgI pgN; split <;> split <;> omega
theorem pgI_le (z : Int) : pgI z ≤ 2 := by unfold pgI; split <;> omega
theorem blobPagesI_any (z : Int) (w : World) : Calls Tryz.prog 72 #[.int .i64 z] w fun e w' => e = .returned (.int .i64 (pgI z)) ∧ w' = w := by
  by_cases h1 : z ≤ 40
  · have h0 : pgI z = 0 := by unfold pgI; rw [if_pos (.inl h1)]
    go_enter Tryz.func72, Tryz.ntmps72
    go_wp2
    go_ret
    exact ⟨by first | rfl | (rw [h0]; rfl), rfl⟩
  · by_cases h2 : 400 < z
    · have h0 : pgI z = 0 := by unfold pgI; rw [if_pos (.inr h2)]
      go_enter Tryz.func72, Tryz.ntmps72
      go_wp2
      go_ret
      exact ⟨by first | rfl | (rw [h0]; rfl), rfl⟩
    · obtain ⟨n, rfl⟩ := Int.eq_ofNat_of_zero_le (show 0 ≤ z from by omega)
      rw [show ((pgI (n : Int) : Nat) : Int) = (pgN n : Int) by rw [pgI_nat]]
      exact blobPages_any n w (by omega)
end Go.Proofs.YtijhamllnnilbaaGreatDoor.Bl
