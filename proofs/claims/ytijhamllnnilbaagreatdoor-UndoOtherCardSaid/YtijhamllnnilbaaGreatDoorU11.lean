/- Lemmas of the claim, in their order:
- The contracts of package page's Name and Put.
-/
import Derived.Test.YtijhamllnnilbaaGreatDoorU02
import Derived.Deep.RegionHeld
import Derived.RegionTactic
import Derived.Deep.RegionWith
set_option linter.unusedVariables false
set_option linter.unusedSimpArgs false
namespace Go.Proofs.YtijhamllnnilbaaGreatDoor.Gr
open Go.RowKit Go.Proofs.YtijhamllnnilbaaGreatDoor.Mem Go.Proofs.YtijhamllnnilbaaGreatDoor.Pg Go.Proofs.YtijhamllnnilbaaGreatDoor.Kp
set_option linter.unusedSimpArgs false
set_option linter.unusedVariables false

def names : List (List UInt8) := [[102, 114, 101, 101], [100, 105, 114], [109, 97, 112], [98, 117, 99, 107, 101, 116], [111, 118, 101, 114, 102, 108, 111, 119], [98, 108, 111, 98]]
abbrev namesCells : Array Value := #[.string (str [102, 114, 101, 101]), .string (str [100, 105, 114]), .string (str [109, 97, 112]), .string (str [98, 117, 99, 107, 101, 116]), .string (str [111, 118, 101, 114, 102, 108, 111, 119]), .string (str [98, 108, 111, 98])]
abbrev kinds : ByteArray := ⟨#[102, 114, 101, 101, 32, 100, 105, 114, 32, 109, 97, 112, 32, 98, 117, 99, 107, 101, 116, 32, 111, 118, 101, 114, 102, 108, 111, 119, 32, 98, 108, 111, 98]⟩
theorem fields_kinds : Lib.fields kinds.data.toList = names := by decide
theorem fields_any (w : World) (ht : Tab w) : Calls Tryz.prog 185 #[.string kinds] w fun e w' => e = .returned (.slice (some ⟨w.heap.size, 0, none⟩) 6 6) ∧ w' = w.alloc (.cells namesCells 9) := by
  have h := Tryz.strings_Fields kinds w (by decide) (by
    intro j b hb
    have hm := List.mem_of_getElem? hb
    revert b
    have hall : ∀ b ∈ kinds.data.toList, b.toNat < 128 := by decide
    intro b _ hm
    exact hall b hm) ht
  rw [fields_kinds] at h
  exact h
theorem names_cell (w : World) (n : Nat) (hn : n < 6) : ∃ s : ByteArray, (w.alloc (.cells namesCells 9)).cell? ⟨w.heap.size, n, none⟩ = some (.string s) ∧ s ≠ ⟨#[]⟩ := by
  have h := blk_cell (heap_alloc_new w (.cells namesCells 9)) n
  rw [h]
  match n, hn with
  | 0, _ | 1, _ | 2, _ | 3, _ | 4, _ | 5, _ => exact ⟨_, rfl, by intro e; cases e⟩

set_option maxRecDepth 100000 in
theorem name_any (k : Int) (w : World) (ht : Tab w) :
    Calls Tryz.prog 130 #[.int .i64 k] w fun e w' => ∃ s : ByteArray, e = .returned (.string s) ∧ (s = ⟨#[]⟩ ↔ ¬ (0 ≤ k ∧ k < 6)) ∧ Below w.heap.size w w' := by
  have hf := fields_any w ht
  have hb := below_al (Below.refl _ w) (.cells namesCells 9)
  by_cases h0 : k < 0
  · have d0 : decide (k < 0) = true := by simpa using h0
    go_enter Tryz.func130, Tryz.ntmps130
    go_wp2_with fail
    with_reducible refine hf.mono ?_
    rintro e w1 ⟨rfl, rfl⟩
    go_wp2_with fail
    go_ret
    exact ⟨_, rfl, ⟨fun _ => by omega, fun _ => rfl⟩, hb⟩
  · have d0 : decide (k < 0) = false := by simpa using h0
    by_cases h6 : k < 6
    · obtain ⟨n, rfl⟩ := Int.eq_ofNat_of_zero_le (show 0 ≤ k by omega)
      have hn6 : n < 6 := by omega
      obtain ⟨s, hc, hs⟩ := names_cell w n hn6
      have d6 : decide ((6 : Int) ≤ (n : Int)) = false := by simp; omega
      have d6' : decide (6 ≤ n) = false := by simp; omega
      have hz : w.heap.size < (w.alloc (.cells namesCells 9)).heap.size := by simp
      have hs' := Lib.hid hs
      have H6 := Lib.hid hn6
      generalize w.alloc (.cells namesCells 9) = w1 at *
      clear hs
      go_enter Tryz.func130, Tryz.ntmps130
      go_wp2_with fail
      with_reducible refine hf.mono ?_
      rintro e w1 ⟨rfl, rfl⟩
      go_wp2_with fail
      go_ret
      exact ⟨_, rfl, ⟨fun h => absurd h hs'.out, fun h => absurd (show 0 ≤ (n : Int) ∧ (n : Int) < 6 from ⟨by omega, by have := H6.out; omega⟩) h⟩, hb⟩
    · have d6 : decide (6 ≤ k) = true := by simp; omega
      have h6' : (6 : Int) ≤ k := by omega
      go_enter Tryz.func130, Tryz.ntmps130
      go_wp2_with fail
      with_reducible refine hf.mono ?_
      rintro e w1 ⟨rfl, rfl⟩
      go_wp2_with fail
      go_ret
      exact ⟨_, rfl, ⟨fun _ => by omega, fun _ => rfl⟩, hb⟩

set_option maxRecDepth 100000 in
theorem conv4 (W : World) (g cap : Nat) (a b c d : UInt8) (h0 : W.cell? ⟨g, 0, none⟩ = some (.int .u8 a.toNat)) (h1 : W.cell? ⟨g, 1, none⟩ = some (.int .u8 b.toNat)) (h2 : W.cell? ⟨g, 2, none⟩ = some (.int .u8 c.toNat)) (h3 : W.cell? ⟨g, 3, none⟩ = some (.int .u8 d.toNat)) :
    (convert 43 9 (.slice (some ⟨g, 0, none⟩) 4 cap)).run Tryz.prog W = .ok (.string ⟨#[a, b, c, d]⟩) W := by
  have hc : ∀ i, i < 4 → W.cell? ⟨g, 0 + i, none⟩ = some (.int .u8 ([(a.toNat : Int), (b.toNat : Int), (c.toNat : Int), (d.toNat : Int)].getD i 0)) := fun i hi => by
    rcases (show i = 0 ∨ i = 1 ∨ i = 2 ∨ i = 3 by omega) with rfl | rfl | rfl | rfl
    · simpa using h0
    · simpa using h1
    · simpa using h2
    · simpa using h3
  have := run_convert_bytes_arg (P := Tryz.prog) W 43 5 Tryz.underlying43 Tryz.underlying5 g 0 4 cap [(a.toNat : Int), (b.toNat : Int), (c.toNat : Int), (d.toNat : Int)] rfl hc 9 Tryz.underlying9
  rw [this]
  simp [strOfNums]

theorem conv4i (W : World) (g : Nat) (k d x : Int) (hk : 0 ≤ k ∧ k < 256) (hd : 0 ≤ d ∧ d < 256) (hx : 0 ≤ x ∧ x < 256) (h : W.heap[g]? = some (.cells #[.int .u8 k, .int .u8 d, .int .u8 0, .int .u8 x] 5 (0, 0))) :
    (convert 43 9 (.slice (some ⟨g, 0, none⟩) 4 4)).run Tryz.prog W = .ok (.string ⟨#[UInt8.ofNat k.toNat, UInt8.ofNat d.toNat, 0, UInt8.ofNat x.toNat]⟩) W := by
  have c := blk_cell h
  refine conv4 W g 4 _ _ _ _ ?_ ?_ ?_ ?_
  · rw [c, small_nat hk.1 hk.2]; rfl
  · rw [c, small_nat hd.1 hd.2]; rfl
  · rw [c]; rfl
  · rw [c, small_nat hx.1 hx.2]; rfl
theorem put_eq (k d x : Int) (l : List UInt8) : (⟨#[80, 71]⟩ ++ ⟨#[UInt8.ofNat k.toNat, UInt8.ofNat d.toNat, 0, UInt8.ofNat x.toNat]⟩ ++ str (zs 10) ++ str l : ByteArray) = str (Pag.bytes ⟨k, d, x, l⟩) := by
  apply ByteArray.ext
  apply Array.toList_inj.1
  simp [ByteArray.data_append, Pag.bytes, hd]

set_option maxRecDepth 100000 in
set_option maxHeartbeats 4000000 in
theorem put_yes (p : Pag) (w : World) (ht : Tab w) (h : p.ok) :
    Calls Tryz.prog 48 #[p.v] w fun e w' => e = .returned (.tuple #[.string (str p.bytes), .bool true]) ∧ Below w.heap.size w w' := by
  obtain ⟨k, d, x, l⟩ := p
  obtain ⟨h1, h2, h3, h4, h5, h6, h7⟩ := h
  simp only at h1 h2 h3 h4 h5 h6 h7
  have hn := fun w ht => name_any k w ht
  have hsz : (str l).size = l.length := str_size l
  simp only [Pag.v]
  obtain ⟨S, hS⟩ : ∃ S, S = str l := ⟨_, rfl⟩
  rw [← hS] at hsz ⊢
  have hk := heap_alloc_new w (.cells #[.int .i64 k, .int .i64 d, .int .i64 x, .string S] 113)
  have ht1 := ht.alloc (.cells #[.int .i64 k, .int .i64 d, .int .i64 x, .string S] 113)
  have hc := blk_cell hk
  have HS := Lib.hid hS
  have d1 : decide (d < 0) = false := by simp; omega
  have d2 : decide (5 < d) = false := by simp; omega
  have d3 : decide (x < 0) = false := by simp; omega
  have d4 : decide (64 ≤ x) = false := by simp; omega
  have d5 : ((l.length : Int) != 240) = false := by simp; omega
  have d5' : ((S.size : Int) != 240) = false := by rw [hsz]; exact d5
  have hz : ∀ w, Calls Tryz.prog 131 #[.int .i64 10] w fun e w' => e = .returned (.string (str (zs 10))) ∧ Below w.heap.size w w' := fun w => zeros_any 10 w (by omega)
  have Hk := Lib.hid (And.intro h1 h2)
  have Hd := Lib.hid (And.intro h3 h4)
  have Hx := Lib.hid (And.intro h5 h6)
  clear h1 h2 h3 h4 h5 h6 hS hsz
  go_enter Tryz.func48, Tryz.ntmps48
  go_wp2_with fail
  with_reducible refine (hn _ ht1).mono ?_
  rintro e w1 ⟨s, rfl, hs, hb1⟩
  have k1 := blk_keep hk hb1
  have c1 := blk_cell k1
  have z1 := lt_of_block k1
  have hbb := below_tr (below_al (Below.refl _ w) _) hb1
  have hs0 : (s == ⟨#[]⟩) = false := by
    rcases e : (s == (⟨#[]⟩ : ByteArray)) with _ | _
    · rfl
    · exact absurd (hs.1 ((MapKept.bytes_beq _ _).1 e)) (fun h => h ⟨Hk.out.1, Hk.out.2⟩)
  have hs1 : s.toList.isEmpty = false := by
    rcases e : s.toList.isEmpty with _ | _
    · rfl
    · exact absurd (hs.1 (ByteArray.ext (Array.toList_inj.1 (by rw [← ByteArray.toList_eq]; exact List.isEmpty_iff.1 e)))) (fun h => h ⟨Hk.out.1, Hk.out.2⟩)
  clear hk hb1 hs ht1 ht hc
  have i1 : IntKind.u8.wrap k = k := IntWalk.u8_in _ (by have := Hk.out; omega)
  have i2 : IntKind.u8.wrap d = d := IntWalk.u8_in _ (by have := Hd.out; omega)
  have i4 : IntKind.u8.wrap (x / 256) = 0 := by
    have h0 : x / 256 = 0 := by have := Hx.out; omega
    rw [h0]; rfl
  have hcv := Lib.hid (fun W g (h : W.heap[g]? = some (.cells #[.int .u8 k, .int .u8 d, .int .u8 0, .int .u8 x] 5 (0, 0))) => conv4i W g k d x (by have := Hk.out; omega) (by have := Hd.out; omega) (by have := Hx.out; omega) h)
  have hfin := Lib.hid (put_eq k d x l)
  obtain ⟨Z, hZ⟩ : ∃ Z, Z = str (zs 10) := ⟨_, rfl⟩
  rw [← HS.out, ← hZ] at hfin
  rw [← hZ] at hz
  have hZs : Z.size = 10 := by rw [hZ, str_size, zs_len]
  have hSs : S.size = 240 := by rw [HS.out, str_size]; exact h7
  clear hZ
  have i3 : IntKind.u8.wrap x = x := IntWalk.u8_in _ (by have := Hx.out; omega)
  go_wp2_with fail
  refine wp_region_held_drew (S := (fun W' => W'.heap[w.heap.size]? = some (.cells #[.int .i64 k, .int .i64 d, .int .i64 x, .string S] 113 (0, 0)) ∧ Below w.heap.size w W')) (by kernel_rfl) (⟨k1, below_dr hbb⟩) (fun hHeld => ?_)
  refine Ra.W 0 ?_ ?_ hHeld ?_
  rotate_left
  · intro wq hSw
    go_simp
    try with_reducible rfl
  try simp only [Act.put, List.getElem_toArray, List.getElem_cons_succ, List.getElem_cons_zero, List.setIfInBounds_toArray, List.set_cons_zero, List.set_cons_succ]
  refine Ra.W 1 ?_ ?_ hHeld ?_
  rotate_left
  · intro wq hSw
    have hSc := blk_cell hSw.1; have hSl := lt_of_block hSw.1
    go_simp
    try with_reducible rfl
  try simp only [Act.put, List.getElem_toArray, List.getElem_cons_succ, List.getElem_cons_zero, List.setIfInBounds_toArray, List.set_cons_zero, List.set_cons_succ]
  refine Ra.W 2 ?_ ?_ hHeld ?_
  rotate_left
  · intro wq hSw
    have hSc := blk_cell hSw.1; have hSl := lt_of_block hSw.1
    go_simp
    try rw [if_neg (by omega)]
    try rw [if_pos (by omega)]
    try with_reducible rfl
  try simp only [Act.put, List.getElem_toArray, List.getElem_cons_succ, List.getElem_cons_zero, List.setIfInBounds_toArray, List.set_cons_zero, List.set_cons_succ]
  refine Ra.W 3 ?_ ?_ hHeld ?_
  rotate_left
  · intro wq hSw
    go_simp
    try with_reducible rfl
  try simp only [Act.put, List.getElem_toArray, List.getElem_cons_succ, List.getElem_cons_zero, List.setIfInBounds_toArray, List.set_cons_zero, List.set_cons_succ]
  refine Ra.W 4 ?_ ?_ hHeld ?_
  rotate_left
  · intro wq hSw
    have hSc := blk_cell hSw.1; have hSl := lt_of_block hSw.1
    go_simp
    try with_reducible rfl
  try simp only [Act.put, List.getElem_toArray, List.getElem_cons_succ, List.getElem_cons_zero, List.setIfInBounds_toArray, List.set_cons_zero, List.set_cons_succ]
  refine Ra.W 5 ?_ ?_ hHeld ?_
  rotate_left
  · intro wq hSw
    have hSc := blk_cell hSw.1; have hSl := lt_of_block hSw.1
    go_simp
    try rw [if_neg (by omega)]
    try rw [if_pos (by omega)]
    try with_reducible rfl
  try simp only [Act.put, List.getElem_toArray, List.getElem_cons_succ, List.getElem_cons_zero, List.setIfInBounds_toArray, List.set_cons_zero, List.set_cons_succ]
  refine Ra.W 6 ?_ ?_ hHeld ?_
  rotate_left
  · intro wq hSw
    go_simp
    try with_reducible rfl
  try simp only [Act.put, List.getElem_toArray, List.getElem_cons_succ, List.getElem_cons_zero, List.setIfInBounds_toArray, List.set_cons_zero, List.set_cons_succ]
  refine Ra.W 7 ?_ ?_ hHeld ?_
  rotate_left
  · intro wq hSw
    have hSc := blk_cell hSw.1; have hSl := lt_of_block hSw.1
    go_simp
    try with_reducible rfl
  try simp only [Act.put, List.getElem_toArray, List.getElem_cons_succ, List.getElem_cons_zero, List.setIfInBounds_toArray, List.set_cons_zero, List.set_cons_succ]
  refine Ra.W 8 ?_ ?_ hHeld ?_
  rotate_left
  · intro wq hSw
    go_simp
    try rw [if_neg (by omega)]
    try rw [if_pos (by omega)]
    try with_reducible rfl
  try simp only [Act.put, List.getElem_toArray, List.getElem_cons_succ, List.getElem_cons_zero, List.setIfInBounds_toArray, List.set_cons_zero, List.set_cons_succ]
  refine Ra.W 9 ?_ ?_ hHeld ?_
  rotate_left
  · intro wq hSw
    have hSc := blk_cell hSw.1; have hSl := lt_of_block hSw.1
    go_simp
    try rw [if_neg (by omega)]
    try rw [if_pos (by omega)]
    try with_reducible rfl
  try simp only [Act.put, List.getElem_toArray, List.getElem_cons_succ, List.getElem_cons_zero, List.setIfInBounds_toArray, List.set_cons_zero, List.set_cons_succ]
  refine Ra.W 10 ?_ ?_ hHeld ?_
  rotate_left
  · intro wq hSw
    go_simp
    try with_reducible rfl
  try simp only [Act.put, List.getElem_toArray, List.getElem_cons_succ, List.getElem_cons_zero, List.setIfInBounds_toArray, List.set_cons_zero, List.set_cons_succ]
  refine Ra.W 11 ?_ ?_ hHeld ?_
  rotate_left
  · intro wq hSw
    have hSc := blk_cell hSw.1; have hSl := lt_of_block hSw.1
    go_simp
    try with_reducible rfl
  try simp only [Act.put, List.getElem_toArray, List.getElem_cons_succ, List.getElem_cons_zero, List.setIfInBounds_toArray, List.set_cons_zero, List.set_cons_succ]
  refine Ra.W 12 ?_ ?_ hHeld ?_
  rotate_left
  · intro wq hSw
    have hSc := blk_cell hSw.1; have hSl := lt_of_block hSw.1
    go_simp
    try rw [if_neg (by omega)]
    try rw [if_pos (by omega)]
    try with_reducible rfl
  try simp only [Act.put, List.getElem_toArray, List.getElem_cons_succ, List.getElem_cons_zero, List.setIfInBounds_toArray, List.set_cons_zero, List.set_cons_succ]
  refine Ra.W 18 ?_ ?_ hHeld ?_
  rotate_left
  · intro wq hSw
    go_simp
    try with_reducible rfl
  try simp only [Act.put, List.getElem_toArray, List.getElem_cons_succ, List.getElem_cons_zero, List.setIfInBounds_toArray, List.set_cons_zero, List.set_cons_succ]
  refine Ra.W 19 ?_ ?_ hHeld ?_
  rotate_left
  · intro wq hSw
    have hSc := blk_cell hSw.1; have hSl := lt_of_block hSw.1
    go_simp
    try with_reducible rfl
  try simp only [Act.put, List.getElem_toArray, List.getElem_cons_succ, List.getElem_cons_zero, List.setIfInBounds_toArray, List.set_cons_zero, List.set_cons_succ]
  refine wpAnyH_ready (rs := [13, 16]) (by kernel_rfl) (by simp) ?_
  refine AllReadyH.cons rfl (fun K hK => ?_) (AllReadyH.cons rfl (fun K hK => ?_) AllReadyH.nil)
  · rw [if_pos (by kernel_rfl)]
    go_simp
    go_simp
    refine hK.out _ _ (⟨hal hHeld.1, below_al hHeld.2 _⟩) (fun hHeld2 => ?_)
    clear hK K
    try clear hHeld
    have hHeld := hHeld2
    try clear hHeld2
    refine wpAnyH_ready (rs := [14, 16]) (by kernel_rfl) (by simp) ?_
    refine AllReadyH.cons rfl (fun K hK => ?_) (AllReadyH.cons rfl (fun K hK => ?_) AllReadyH.nil)
    · rw [if_pos (by kernel_rfl)]
      go_simp
      rw [hcv.out _ _ (by first | exact heap_alloc_new _ _ | exact (hb4.block _ (by simp)).trans (heap_alloc_new _ _))]
      go_simp
      refine hK.out _ _ (hHeld) (fun hHeld2 => ?_)
      clear hK K
      try clear hHeld
      have hHeld := hHeld2
      try clear hHeld2
      refine Ra.W 15 ?_ ?_ hHeld ?_
      rotate_left
      · intro wq hSw
        go_simp
        try rw [if_neg (by omega)]
        try rw [if_pos (by omega)]
        try with_reducible rfl
      try simp only [Act.put, List.getElem_toArray, List.getElem_cons_succ, List.getElem_cons_zero, List.setIfInBounds_toArray, List.set_cons_zero, List.set_cons_succ]
      refine wpAnyH_ready (rs := [16]) (by kernel_rfl) (by simp) ?_
      refine AllReadyH.cons rfl (fun K hK => ?_) AllReadyH.nil
      rw [if_pos (by kernel_rfl)]
      go_simp
      with_reducible refine (hz _).mono ?_
      rintro e w4 ⟨rfl, hb4⟩
      go_simp
      refine hK.out _ _ (⟨blk_keep hHeld.1 hb4, below_base hHeld.2 hHeld.2.size hb4⟩) (fun hHeld2 => ?_)
      clear hK K
      try clear hHeld
      have hHeld := hHeld2
      try clear hHeld2
      refine Ra.W 17 ?_ ?_ hHeld ?_
      rotate_left
      · intro wq hSw
        go_simp
        try rw [if_neg (by omega)]
        try rw [if_pos (by omega)]
        try with_reducible rfl
      try simp only [Act.put, List.getElem_toArray, List.getElem_cons_succ, List.getElem_cons_zero, List.setIfInBounds_toArray, List.set_cons_zero, List.set_cons_succ]
      refine Ra.W 20 ?_ ?_ hHeld ?_
      rotate_left
      · intro wq hSw
        go_simp
        try rw [if_neg (by omega)]
        try rw [if_pos (by omega)]
        try with_reducible rfl
      try simp only [Act.put, List.getElem_toArray, List.getElem_cons_succ, List.getElem_cons_zero, List.setIfInBounds_toArray, List.set_cons_zero, List.set_cons_succ]
      refine Ra.W 21 ?_ ?_ hHeld ?_
      rotate_left
      · intro wq hSw
        go_simp
        try with_reducible rfl
      try simp only [Act.put, List.getElem_toArray, List.getElem_cons_succ, List.getElem_cons_zero, List.setIfInBounds_toArray, List.set_cons_zero, List.set_cons_succ]
      refine Ra.W 22 ?_ ?_ hHeld ?_
      rotate_left
      · intro wq hSw
        go_simp
        try with_reducible rfl
      try simp only [Act.put, List.getElem_toArray, List.getElem_cons_succ, List.getElem_cons_zero, List.setIfInBounds_toArray, List.set_cons_zero, List.set_cons_succ]
      refine wpAnyH_done (by kernel_rfl) ?_ _
      go_wp2_with fail
      go_ret2
      exact ⟨by rw [← hfin.out]; rfl, hHeld.2⟩
    · rw [if_pos (by kernel_rfl)]
      go_simp
      with_reducible refine (hz _).mono ?_
      rintro e w4 ⟨rfl, hb4⟩
      go_simp
      refine hK.out _ _ (⟨blk_keep hHeld.1 hb4, below_base hHeld.2 hHeld.2.size hb4⟩) (fun hHeld2 => ?_)
      clear hK K
      try clear hHeld
      have hHeld := hHeld2
      try clear hHeld2
      refine wpAnyH_ready (rs := [14]) (by kernel_rfl) (by simp) ?_
      refine AllReadyH.cons rfl (fun K hK => ?_) AllReadyH.nil
      rw [if_pos (by kernel_rfl)]
      go_simp
      rw [hcv.out _ _ (by first | exact heap_alloc_new _ _ | exact (hb4.block _ (by simp)).trans (heap_alloc_new _ _))]
      go_simp
      refine hK.out _ _ (hHeld) (fun hHeld2 => ?_)
      clear hK K
      try clear hHeld
      have hHeld := hHeld2
      try clear hHeld2
      refine Ra.W 15 ?_ ?_ hHeld ?_
      rotate_left
      · intro wq hSw
        go_simp
        try rw [if_neg (by omega)]
        try rw [if_pos (by omega)]
        try with_reducible rfl
      try simp only [Act.put, List.getElem_toArray, List.getElem_cons_succ, List.getElem_cons_zero, List.setIfInBounds_toArray, List.set_cons_zero, List.set_cons_succ]
      refine Ra.W 17 ?_ ?_ hHeld ?_
      rotate_left
      · intro wq hSw
        go_simp
        try rw [if_neg (by omega)]
        try rw [if_pos (by omega)]
        try with_reducible rfl
      try simp only [Act.put, List.getElem_toArray, List.getElem_cons_succ, List.getElem_cons_zero, List.setIfInBounds_toArray, List.set_cons_zero, List.set_cons_succ]
      refine Ra.W 20 ?_ ?_ hHeld ?_
      rotate_left
      · intro wq hSw
        go_simp
        try rw [if_neg (by omega)]
        try rw [if_pos (by omega)]
        try with_reducible rfl
      try simp only [Act.put, List.getElem_toArray, List.getElem_cons_succ, List.getElem_cons_zero, List.setIfInBounds_toArray, List.set_cons_zero, List.set_cons_succ]
      refine Ra.W 21 ?_ ?_ hHeld ?_
      rotate_left
      · intro wq hSw
        go_simp
        try with_reducible rfl
      try simp only [Act.put, List.getElem_toArray, List.getElem_cons_succ, List.getElem_cons_zero, List.setIfInBounds_toArray, List.set_cons_zero, List.set_cons_succ]
      refine Ra.W 22 ?_ ?_ hHeld ?_
      rotate_left
      · intro wq hSw
        go_simp
        try with_reducible rfl
      try simp only [Act.put, List.getElem_toArray, List.getElem_cons_succ, List.getElem_cons_zero, List.setIfInBounds_toArray, List.set_cons_zero, List.set_cons_succ]
      refine wpAnyH_done (by kernel_rfl) ?_ _
      go_wp2_with fail
      go_ret2
      exact ⟨by rw [← hfin.out]; rfl, hHeld.2⟩
  · rw [if_pos (by kernel_rfl)]
    go_simp
    with_reducible refine (hz _).mono ?_
    rintro e w4 ⟨rfl, hb4⟩
    go_simp
    refine hK.out _ _ (⟨blk_keep hHeld.1 hb4, below_base hHeld.2 hHeld.2.size hb4⟩) (fun hHeld2 => ?_)
    clear hK K
    try clear hHeld
    have hHeld := hHeld2
    try clear hHeld2
    refine wpAnyH_ready (rs := [13]) (by kernel_rfl) (by simp) ?_
    refine AllReadyH.cons rfl (fun K hK => ?_) AllReadyH.nil
    rw [if_pos (by kernel_rfl)]
    go_simp
    go_simp
    refine hK.out _ _ (⟨hal hHeld.1, below_al hHeld.2 _⟩) (fun hHeld2 => ?_)
    clear hK K
    try clear hHeld
    have hHeld := hHeld2
    try clear hHeld2
    refine wpAnyH_ready (rs := [14]) (by kernel_rfl) (by simp) ?_
    refine AllReadyH.cons rfl (fun K hK => ?_) AllReadyH.nil
    rw [if_pos (by kernel_rfl)]
    go_simp
    rw [hcv.out _ _ (by first | exact heap_alloc_new _ _ | exact (hb4.block _ (by simp)).trans (heap_alloc_new _ _))]
    go_simp
    refine hK.out _ _ (hHeld) (fun hHeld2 => ?_)
    clear hK K
    try clear hHeld
    have hHeld := hHeld2
    try clear hHeld2
    refine Ra.W 15 ?_ ?_ hHeld ?_
    rotate_left
    · intro wq hSw
      go_simp
      try rw [if_neg (by omega)]
      try rw [if_pos (by omega)]
      try with_reducible rfl
    try simp only [Act.put, List.getElem_toArray, List.getElem_cons_succ, List.getElem_cons_zero, List.setIfInBounds_toArray, List.set_cons_zero, List.set_cons_succ]
    refine Ra.W 17 ?_ ?_ hHeld ?_
    rotate_left
    · intro wq hSw
      go_simp
      try rw [if_neg (by omega)]
      try rw [if_pos (by omega)]
      try with_reducible rfl
    try simp only [Act.put, List.getElem_toArray, List.getElem_cons_succ, List.getElem_cons_zero, List.setIfInBounds_toArray, List.set_cons_zero, List.set_cons_succ]
    refine Ra.W 20 ?_ ?_ hHeld ?_
    rotate_left
    · intro wq hSw
      go_simp
      try rw [if_neg (by omega)]
      try rw [if_pos (by omega)]
      try with_reducible rfl
    try simp only [Act.put, List.getElem_toArray, List.getElem_cons_succ, List.getElem_cons_zero, List.setIfInBounds_toArray, List.set_cons_zero, List.set_cons_succ]
    refine Ra.W 21 ?_ ?_ hHeld ?_
    rotate_left
    · intro wq hSw
      go_simp
      try with_reducible rfl
    try simp only [Act.put, List.getElem_toArray, List.getElem_cons_succ, List.getElem_cons_zero, List.setIfInBounds_toArray, List.set_cons_zero, List.set_cons_succ]
    refine Ra.W 22 ?_ ?_ hHeld ?_
    rotate_left
    · intro wq hSw
      go_simp
      try with_reducible rfl
    try simp only [Act.put, List.getElem_toArray, List.getElem_cons_succ, List.getElem_cons_zero, List.setIfInBounds_toArray, List.set_cons_zero, List.set_cons_succ]
    refine wpAnyH_done (by kernel_rfl) ?_ _
    go_wp2_with fail
    go_ret2
    exact ⟨by rw [← hfin.out]; rfl, hHeld.2⟩
end Go.Proofs.YtijhamllnnilbaaGreatDoor.Gr
