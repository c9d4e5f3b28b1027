/- Lemmas of the claim, in their order:
- The contracts of package page's Name and Put.
- The contract of package page's Get, of bytes that are a page's, and of bytes that are none by their number.
- Maps from the numbers of pages to strings.
- The store of chapter 18's laws, and how it reads; what a group over it is; package group's New, Taken, Bytes.
-/
import Derived.Test.YtijhamllnnilbaaGreatDoorQ02
import Derived.Deep.RegionHeld
import Derived.RegionTactic
import Derived.Deep.RegionWith
import Derived.Maps.StringElems
import Derived.Maps.RangeWalk
import Derived.Maps.OwnSet
import Derived.Carry
set_option linter.unusedVariables false
set_option linter.unusedSimpArgs false
namespace Go.Proofs.YtijhamllnnilbaaGreatDoor.Gr
open Go.RowKit Go.Proofs.YtijhamllnnilbaaGreatDoor.Mem Go.Proofs.YtijhamllnnilbaaGreatDoor.Pg Go.Proofs.YtijhamllnnilbaaGreatDoor.Kp
set_option linter.unusedSimpArgs false
set_option linter.unusedVariables false

def names : List (List UInt8) := [[102, 114, 101, 101], [100, 105, 114], [109, 97, 112], [98, 117, 99, 107, 101, 116], [111, 118, 101, 114, 102, 108, 111, 119], [98, 108, 111, 98]]
abbrev namesCells : Array Value := #[.string (str [102, 114, 101, 101]), .string (str [100, 105, 114]), .string (str [109, 97, 112]), .string (str [98, 117, 99, 107, 101, 116]), .string (str [111, 118, 101, 114, 102, 108, 111, 119]), .string (str [98, 108, 111, 98])]
abbrev kinds : ByteArray := ⟨#[102, 114, 101, 101, 32, 100, 105, 114, 32, 109, 97, 112, 32, 98, 117, 99, 107, 101, 116, 32, 111, 118, 101, 114, 102, 108, 111, 119, 32, 98, 108, 111, 98]⟩
theorem fields_kinds : Lib.fields kinds.data.toList = names := by decide
theorem fields_any (w : World) (ht : Tab w) : Calls Tryz.prog 185 #[.string kinds] w fun e w' => e = .returned (.slice (some ⟨w.heap.size, 0, none⟩) 6 6) ∧ w' = w.alloc (.cells namesCells 9) := by
 have h := Tryz.strings_Fields kinds w (by decide) (by
  intro j b hb
  have hm := List.mem_of_getElem? hb
  revert b
  have hall : ∀ b ∈ kinds.data.toList, b.toNat < 128 := by decide
  intro b _ hm
  exact hall b hm) ht
 rw [fields_kinds] at h
 exact h
theorem names_cell (w : World) (n : Nat) (hn : n < 6) : ∃ s : ByteArray, (w.alloc (.cells namesCells 9)).cell? ⟨w.heap.size, n, none⟩ = some (.string s) ∧ s ≠ ⟨#[]⟩ := by
 have h := blk_cell (heap_alloc_new w (.cells namesCells 9)) n
 rw [h]
 match n, hn with
 | 0, _ | 1, _ | 2, _ | 3, _ | 4, _ | 5, _ => exact ⟨_, rfl, by intro e; cases e⟩

set_option maxRecDepth 100000 in
theorem name_any (k : Int) (w : World) (ht : Tab w) :
 Calls Tryz.prog 130 #[.int .i64 k] w fun e w' => ∃ s : ByteArray, e = .returned (.string s) ∧ (s = ⟨#[]⟩ ↔ ¬ (0 ≤ k ∧ k < 6)) ∧ Below w.heap.size w w' := by
 have hf := fields_any w ht
 have hb := below_al (Below.refl _ w) (.cells namesCells 9)
 by_cases h0 : k < 0
 · have d0 : decide (k < 0) = true := by simpa using h0
   go_enter Tryz.func130, Tryz.ntmps130
   go_wp2_with fail
   with_reducible refine hf.mono ?_
   rintro e w1 ⟨rfl, rfl⟩
   go_wp2_with fail
   go_ret
   exact ⟨_, rfl, ⟨fun _ => by omega, fun _ => rfl⟩, hb⟩
 · have d0 : decide (k < 0) = false := by simpa using h0
   by_cases h6 : k < 6
   · obtain ⟨n, rfl⟩ := Int.eq_ofNat_of_zero_le (show 0 ≤ k by omega)
     have hn6 : n < 6 := by omega
     obtain ⟨s, hc, hs⟩ := names_cell w n hn6
     have d6 : decide ((6 : Int) ≤ (n : Int)) = false := by simp; omega
     have d6' : decide (6 ≤ n) = false := by simp; omega
     have hz : w.heap.size < (w.alloc (.cells namesCells 9)).heap.size := by simp
     have hs' := Lib.hid hs
     have H6 := Lib.hid hn6
     generalize w.alloc (.cells namesCells 9) = w1 at *
     clear hs
     go_enter Tryz.func130, Tryz.ntmps130
     go_wp2_with fail
     with_reducible refine hf.mono ?_
     rintro e w1 ⟨rfl, rfl⟩
     go_wp2_with fail
     go_ret
     exact ⟨_, rfl, ⟨fun h => absurd h hs'.out, fun h => absurd (show 0 ≤ (n : Int) ∧ (n : Int) < 6 from ⟨by omega, by have := H6.out; omega⟩) h⟩, hb⟩
   · have d6 : decide (6 ≤ k) = true := by simp; omega
     have h6' : (6 : Int) ≤ k := by omega
     go_enter Tryz.func130, Tryz.ntmps130
     go_wp2_with fail
     with_reducible refine hf.mono ?_
     rintro e w1 ⟨rfl, rfl⟩
     go_wp2_with fail
     go_ret
     exact ⟨_, rfl, ⟨fun _ => by omega, fun _ => rfl⟩, hb⟩

set_option maxRecDepth 100000 in
theorem conv4 (W : World) (g cap : Nat) (a b c d : UInt8) (h0 : W.cell? ⟨g, 0, none⟩ = some (.int .u8 a.toNat)) (h1 : W.cell? ⟨g, 1, none⟩ = some (.int .u8 b.toNat)) (h2 : W.cell? ⟨g, 2, none⟩ = some (.int .u8 c.toNat)) (h3 : W.cell? ⟨g, 3, none⟩ = some (.int .u8 d.toNat)) :
 (convert 43 9 (.slice (some ⟨g, 0, none⟩) 4 cap)).run Tryz.prog W = .ok (.string ⟨#[a, b, c, d]⟩) W := by
 have hc : ∀ i, i < 4 → W.cell? ⟨g, 0 + i, none⟩ = some (.int .u8 ([(a.toNat : Int), (b.toNat : Int), (c.toNat : Int), (d.toNat : Int)].getD i 0)) := fun i hi => by
  rcases (show i = 0 ∨ i = 1 ∨ i = 2 ∨ i = 3 by omega) with rfl | rfl | rfl | rfl
  · simpa using h0
  · simpa using h1
  · simpa using h2
  · simpa using h3
 have := run_convert_bytes_arg (P := Tryz.prog) W 43 5 Tryz.underlying43 Tryz.underlying5 g 0 4 cap [(a.toNat : Int), (b.toNat : Int), (c.toNat : Int), (d.toNat : Int)] rfl hc 9 Tryz.underlying9
 rw [this]
 simp [strOfNums]

theorem conv4i (W : World) (g : Nat) (k d x : Int) (hk : 0 ≤ k ∧ k < 256) (hd : 0 ≤ d ∧ d < 256) (hx : 0 ≤ x ∧ x < 256) (h : W.heap[g]? = some (.cells #[.int .u8 k, .int .u8 d, .int .u8 0, .int .u8 x] 5 (0, 0))) :
 (convert 43 9 (.slice (some ⟨g, 0, none⟩) 4 4)).run Tryz.prog W = .ok (.string ⟨#[UInt8.ofNat k.toNat, UInt8.ofNat d.toNat, 0, UInt8.ofNat x.toNat]⟩) W := by
 have c := blk_cell h
 refine conv4 W g 4 _ _ _ _ ?_ ?_ ?_ ?_
 · rw [c, small_nat hk.1 hk.2]; rfl
 · rw [c, small_nat hd.1 hd.2]; rfl
 · rw [c]; rfl
 · rw [c, small_nat hx.1 hx.2]; rfl
theorem put_eq (k d x : Int) (l : List UInt8) : (⟨#[80, 71]⟩ ++ ⟨#[UInt8.ofNat k.toNat, UInt8.ofNat d.toNat, 0, UInt8.ofNat x.toNat]⟩ ++ str (zs 10) ++ str l : ByteArray) = str (Pag.bytes ⟨k, d, x, l⟩) := by
 apply ByteArray.ext
 apply Array.toList_inj.1
 simp [ByteArray.data_append, Pag.bytes, hd]

set_option maxRecDepth 100000 in
set_option maxHeartbeats 4000000 in
theorem put_yes (p : Pag) (w : World) (ht : Tab w) (h : p.ok) :
 Calls Tryz.prog 48 #[p.v] w fun e w' => e = .returned (.tuple #[.string (str p.bytes), .bool true]) ∧ Below w.heap.size w w' := by
 obtain ⟨k, d, x, l⟩ := p
 obtain ⟨h1, h2, h3, h4, h5, h6, h7⟩ := h
 simp only at h1 h2 h3 h4 h5 h6 h7
 have hn := fun w ht => name_any k w ht
 have hsz : (str l).size = l.length := str_size l
 simp only [Pag.v]
 obtain ⟨S, hS⟩ : ∃ S, S = str l := ⟨_, rfl⟩
 rw [← hS] at hsz ⊢
 have hk := heap_alloc_new w (.cells #[.int .i64 k, .int .i64 d, .int .i64 x, .string S] 113)
 have ht1 := ht.alloc (.cells #[.int .i64 k, .int .i64 d, .int .i64 x, .string S] 113)
 have hc := blk_cell hk
 have HS := Lib.hid hS
 have d1 : decide (d < 0) = false := by simp; omega
 have d2 : decide (5 < d) = false := by simp; omega
 have d3 : decide (x < 0) = false := by simp; omega
 have d4 : decide (64 ≤ x) = false := by simp; omega
 have d5 : ((l.length : Int) != 240) = false := by simp; omega
 have d5' : ((S.size : Int) != 240) = false := by rw [hsz]; exact d5
 have hz : ∀ w, Calls Tryz.prog 131 #[.int .i64 10] w fun e w' => e = .returned (.string (str (zs 10))) ∧ Below w.heap.size w w' := fun w => zeros_any 10 w (by omega)
 have Hk := Lib.hid (And.intro h1 h2)
 have Hd := Lib.hid (And.intro h3 h4)
 have Hx := Lib.hid (And.intro h5 h6)
 clear h1 h2 h3 h4 h5 h6 hS hsz
 go_enter Tryz.func48, Tryz.ntmps48
 go_wp2_with fail
 with_reducible refine (hn _ ht1).mono ?_
 rintro e w1 ⟨s, rfl, hs, hb1⟩
 have k1 := blk_keep hk hb1
 have c1 := blk_cell k1
 have z1 := lt_of_block k1
 have hbb := below_tr (below_al (Below.refl _ w) _) hb1
 have hs0 : (s == ⟨#[]⟩) = false := by
  rcases e : (s == (⟨#[]⟩ : ByteArray)) with _ | _
  · rfl
  · exact absurd (hs.1 ((MapKept.bytes_beq _ _).1 e)) (fun h => h ⟨Hk.out.1, Hk.out.2⟩)
 have hs1 : s.toList.isEmpty = false := by
  rcases e : s.toList.isEmpty with _ | _
  · rfl
  · exact absurd (hs.1 (ByteArray.ext (Array.toList_inj.1 (by rw [← ByteArray.toList_eq]; exact List.isEmpty_iff.1 e)))) (fun h => h ⟨Hk.out.1, Hk.out.2⟩)
 clear hk hb1 hs ht1 ht hc
 have i1 : IntKind.u8.wrap k = k := IntWalk.u8_in _ (by have := Hk.out; omega)
 have i2 : IntKind.u8.wrap d = d := IntWalk.u8_in _ (by have := Hd.out; omega)
 have i4 : IntKind.u8.wrap (x / 256) = 0 := by
  have h0 : x / 256 = 0 := by have := Hx.out; omega
  rw [h0]; rfl
 have hcv := Lib.hid (fun W g (h : W.heap[g]? = some (.cells #[.int .u8 k, .int .u8 d, .int .u8 0, .int .u8 x] 5 (0, 0))) => conv4i W g k d x (by have := Hk.out; omega) (by have := Hd.out; omega) (by have := Hx.out; omega) h)
 have hfin := Lib.hid (put_eq k d x l)
 obtain ⟨Z, hZ⟩ : ∃ Z, Z = str (zs 10) := ⟨_, rfl⟩
 rw [← HS.out, ← hZ] at hfin
 rw [← hZ] at hz
 have hZs : Z.size = 10 := by rw [hZ, str_size, zs_len]
 have hSs : S.size = 240 := by rw [HS.out, str_size]; exact h7
 clear hZ
 have i3 : IntKind.u8.wrap x = x := IntWalk.u8_in _ (by have := Hx.out; omega)
 go_wp2_with fail
 refine wp_region_held_drew (S := (fun W' => W'.heap[w.heap.size]? = some (.cells #[.int .i64 k, .int .i64 d, .int .i64 x, .string S] 113 (0, 0)) ∧ Below w.heap.size w W')) (by kernel_rfl) (⟨k1, below_dr hbb⟩) (fun hHeld => ?_)
 refine Ra.W 0 ?_ ?_ hHeld ?_
 rotate_left
 · intro wq hSw
   go_simp
   try with_reducible rfl
 try simp only [Act.put, pX]
 refine Ra.W 1 ?_ ?_ hHeld ?_
 rotate_left
 · intro wq hSw
   have hSc := blk_cell hSw.1; have hSl := lt_of_block hSw.1
   go_simp
   try with_reducible rfl
 try simp only [Act.put, pX]
 refine Ra.W 2 ?_ ?_ hHeld ?_
 rotate_left
 · intro wq hSw
   have hSc := blk_cell hSw.1; have hSl := lt_of_block hSw.1
   go_simp
   try rw [if_neg (by omega)]
   try rw [if_pos (by omega)]
   try with_reducible rfl
 try simp only [Act.put, pX]
 refine Ra.W 3 ?_ ?_ hHeld ?_
 rotate_left
 · intro wq hSw
   go_simp
   try with_reducible rfl
 try simp only [Act.put, pX]
 refine Ra.W 4 ?_ ?_ hHeld ?_
 rotate_left
 · intro wq hSw
   have hSc := blk_cell hSw.1; have hSl := lt_of_block hSw.1
   go_simp
   try with_reducible rfl
 try simp only [Act.put, pX]
 refine Ra.W 5 ?_ ?_ hHeld ?_
 rotate_left
 · intro wq hSw
   have hSc := blk_cell hSw.1; have hSl := lt_of_block hSw.1
   go_simp
   try rw [if_neg (by omega)]
   try rw [if_pos (by omega)]
   try with_reducible rfl
 try simp only [Act.put, pX]
 refine Ra.W 6 ?_ ?_ hHeld ?_
 rotate_left
 · intro wq hSw
   go_simp
   try with_reducible rfl
 try simp only [Act.put, pX]
 refine Ra.W 7 ?_ ?_ hHeld ?_
 rotate_left
 · intro wq hSw
   have hSc := blk_cell hSw.1; have hSl := lt_of_block hSw.1
   go_simp
   try with_reducible rfl
 try simp only [Act.put, pX]
 refine Ra.W 8 ?_ ?_ hHeld ?_
 rotate_left
 · intro wq hSw
   go_simp
   try rw [if_neg (by omega)]
   try rw [if_pos (by omega)]
   try with_reducible rfl
 try simp only [Act.put, pX]
 refine Ra.W 9 ?_ ?_ hHeld ?_
 rotate_left
 · intro wq hSw
   have hSc := blk_cell hSw.1; have hSl := lt_of_block hSw.1
   go_simp
   try rw [if_neg (by omega)]
   try rw [if_pos (by omega)]
   try with_reducible rfl
 try simp only [Act.put, pX]
 refine Ra.W 10 ?_ ?_ hHeld ?_
 rotate_left
 · intro wq hSw
   go_simp
   try with_reducible rfl
 try simp only [Act.put, pX]
 refine Ra.W 11 ?_ ?_ hHeld ?_
 rotate_left
 · intro wq hSw
   have hSc := blk_cell hSw.1; have hSl := lt_of_block hSw.1
   go_simp
   try with_reducible rfl
 try simp only [Act.put, pX]
 refine Ra.W 12 ?_ ?_ hHeld ?_
 rotate_left
 · intro wq hSw
   have hSc := blk_cell hSw.1; have hSl := lt_of_block hSw.1
   go_simp
   try rw [if_neg (by omega)]
   try rw [if_pos (by omega)]
   try with_reducible rfl
 try simp only [Act.put, pX]
 refine Ra.W 18 ?_ ?_ hHeld ?_
 rotate_left
 · intro wq hSw
   go_simp
   try with_reducible rfl
 try simp only [Act.put, pX]
 refine Ra.W 19 ?_ ?_ hHeld ?_
 rotate_left
 · intro wq hSw
   have hSc := blk_cell hSw.1; have hSl := lt_of_block hSw.1
   go_simp
   try with_reducible rfl
 try simp only [Act.put, pX]
 refine wpAnyH_ready (rs := [13, 16]) (by kernel_rfl) (by simp) ?_
 refine AllReadyH.cons rfl (fun K hK => ?_) (AllReadyH.cons rfl (fun K hK => ?_) AllReadyH.nil)
 · rw [if_pos (by kernel_rfl)]
   go_simp
   go_simp
   refine hK.out _ _ (⟨hal hHeld.1, below_al hHeld.2 _⟩) (fun hHeld2 => ?_)
   clear hK K
   try clear hHeld
   have hHeld := hHeld2
   try clear hHeld2
   refine wpAnyH_ready (rs := [14, 16]) (by kernel_rfl) (by simp) ?_
   refine AllReadyH.cons rfl (fun K hK => ?_) (AllReadyH.cons rfl (fun K hK => ?_) AllReadyH.nil)
   · rw [if_pos (by kernel_rfl)]
     go_simp
     rw [hcv.out _ _ (by first | exact heap_alloc_new _ _ | exact (hb4.block _ (by simp)).trans (heap_alloc_new _ _))]
     go_simp
     refine hK.out _ _ (hHeld) (fun hHeld2 => ?_)
     clear hK K
     try clear hHeld
     have hHeld := hHeld2
     try clear hHeld2
     refine Ra.W 15 ?_ ?_ hHeld ?_
     rotate_left
     · intro wq hSw
       go_simp
       try rw [if_neg (by omega)]
       try rw [if_pos (by omega)]
       try with_reducible rfl
     try simp only [Act.put, pX]
     refine wpAnyH_ready (rs := [16]) (by kernel_rfl) (by simp) ?_
     refine AllReadyH.cons rfl (fun K hK => ?_) AllReadyH.nil
     rw [if_pos (by kernel_rfl)]
     go_simp
     with_reducible refine (hz _).mono ?_
     rintro e w4 ⟨rfl, hb4⟩
     go_simp
     refine hK.out _ _ (⟨blk_keep hHeld.1 hb4, below_base hHeld.2 hHeld.2.size hb4⟩) (fun hHeld2 => ?_)
     clear hK K
     try clear hHeld
     have hHeld := hHeld2
     try clear hHeld2
     refine Ra.W 17 ?_ ?_ hHeld ?_
     rotate_left
     · intro wq hSw
       go_simp
       try rw [if_neg (by omega)]
       try rw [if_pos (by omega)]
       try with_reducible rfl
     try simp only [Act.put, pX]
     refine Ra.W 20 ?_ ?_ hHeld ?_
     rotate_left
     · intro wq hSw
       go_simp
       try rw [if_neg (by omega)]
       try rw [if_pos (by omega)]
       try with_reducible rfl
     try simp only [Act.put, pX]
     refine Ra.W 21 ?_ ?_ hHeld ?_
     rotate_left
     · intro wq hSw
       go_simp
       try with_reducible rfl
     try simp only [Act.put, pX]
     refine Ra.W 22 ?_ ?_ hHeld ?_
     rotate_left
     · intro wq hSw
       go_simp
       try with_reducible rfl
     try simp only [Act.put, pX]
     refine wpAnyH_done (by kernel_rfl) ?_ _
     go_wp2_with fail
     go_ret2
     exact ⟨by rw [← hfin.out]; rfl, hHeld.2⟩
   · rw [if_pos (by kernel_rfl)]
     go_simp
     with_reducible refine (hz _).mono ?_
     rintro e w4 ⟨rfl, hb4⟩
     go_simp
     refine hK.out _ _ (⟨blk_keep hHeld.1 hb4, below_base hHeld.2 hHeld.2.size hb4⟩) (fun hHeld2 => ?_)
     clear hK K
     try clear hHeld
     have hHeld := hHeld2
     try clear hHeld2
     refine wpAnyH_ready (rs := [14]) (by kernel_rfl) (by simp) ?_
     refine AllReadyH.cons rfl (fun K hK => ?_) AllReadyH.nil
     rw [if_pos (by kernel_rfl)]
     go_simp
     rw [hcv.out _ _ (by first | exact heap_alloc_new _ _ | exact (hb4.block _ (by simp)).trans (heap_alloc_new _ _))]
     go_simp
     refine hK.out _ _ (hHeld) (fun hHeld2 => ?_)
     clear hK K
     try clear hHeld
     have hHeld := hHeld2
     try clear hHeld2
     refine Ra.W 15 ?_ ?_ hHeld ?_
     rotate_left
     · intro wq hSw
       go_simp
       try rw [if_neg (by omega)]
       try rw [if_pos (by omega)]
       try with_reducible rfl
     try simp only [Act.put, pX]
     refine Ra.W 17 ?_ ?_ hHeld ?_
     rotate_left
     · intro wq hSw
       go_simp
       try rw [if_neg (by omega)]
       try rw [if_pos (by omega)]
       try with_reducible rfl
     try simp only [Act.put, pX]
     refine Ra.W 20 ?_ ?_ hHeld ?_
     rotate_left
     · intro wq hSw
       go_simp
       try rw [if_neg (by omega)]
       try rw [if_pos (by omega)]
       try with_reducible rfl
     try simp only [Act.put, pX]
     refine Ra.W 21 ?_ ?_ hHeld ?_
     rotate_left
     · intro wq hSw
       go_simp
       try with_reducible rfl
     try simp only [Act.put, pX]
     refine Ra.W 22 ?_ ?_ hHeld ?_
     rotate_left
     · intro wq hSw
       go_simp
       try with_reducible rfl
     try simp only [Act.put, pX]
     refine wpAnyH_done (by kernel_rfl) ?_ _
     go_wp2_with fail
     go_ret2
     exact ⟨by rw [← hfin.out]; rfl, hHeld.2⟩
 · rw [if_pos (by kernel_rfl)]
   go_simp
   with_reducible refine (hz _).mono ?_
   rintro e w4 ⟨rfl, hb4⟩
   go_simp
   refine hK.out _ _ (⟨blk_keep hHeld.1 hb4, below_base hHeld.2 hHeld.2.size hb4⟩) (fun hHeld2 => ?_)
   clear hK K
   try clear hHeld
   have hHeld := hHeld2
   try clear hHeld2
   refine wpAnyH_ready (rs := [13]) (by kernel_rfl) (by simp) ?_
   refine AllReadyH.cons rfl (fun K hK => ?_) AllReadyH.nil
   rw [if_pos (by kernel_rfl)]
   go_simp
   go_simp
   refine hK.out _ _ (⟨hal hHeld.1, below_al hHeld.2 _⟩) (fun hHeld2 => ?_)
   clear hK K
   try clear hHeld
   have hHeld := hHeld2
   try clear hHeld2
   refine wpAnyH_ready (rs := [14]) (by kernel_rfl) (by simp) ?_
   refine AllReadyH.cons rfl (fun K hK => ?_) AllReadyH.nil
   rw [if_pos (by kernel_rfl)]
   go_simp
   rw [hcv.out _ _ (by first | exact heap_alloc_new _ _ | exact (hb4.block _ (by simp)).trans (heap_alloc_new _ _))]
   go_simp
   refine hK.out _ _ (hHeld) (fun hHeld2 => ?_)
   clear hK K
   try clear hHeld
   have hHeld := hHeld2
   try clear hHeld2
   refine Ra.W 15 ?_ ?_ hHeld ?_
   rotate_left
   · intro wq hSw
     go_simp
     try rw [if_neg (by omega)]
     try rw [if_pos (by omega)]
     try with_reducible rfl
   try simp only [Act.put, pX]
   refine Ra.W 17 ?_ ?_ hHeld ?_
   rotate_left
   · intro wq hSw
     go_simp
     try rw [if_neg (by omega)]
     try rw [if_pos (by omega)]
     try with_reducible rfl
   try simp only [Act.put, pX]
   refine Ra.W 20 ?_ ?_ hHeld ?_
   rotate_left
   · intro wq hSw
     go_simp
     try rw [if_neg (by omega)]
     try rw [if_pos (by omega)]
     try with_reducible rfl
   try simp only [Act.put, pX]
   refine Ra.W 21 ?_ ?_ hHeld ?_
   rotate_left
   · intro wq hSw
     go_simp
     try with_reducible rfl
   try simp only [Act.put, pX]
   refine Ra.W 22 ?_ ?_ hHeld ?_
   rotate_left
   · intro wq hSw
     go_simp
     try with_reducible rfl
   try simp only [Act.put, pX]
   refine wpAnyH_done (by kernel_rfl) ?_ _
   go_wp2_with fail
   go_ret2
   exact ⟨by rw [← hfin.out]; rfl, hHeld.2⟩
end Go.Proofs.YtijhamllnnilbaaGreatDoor.Gr
namespace Go.Proofs.YtijhamllnnilbaaGreatDoor.Gr
open Go.RowKit Go.Proofs.YtijhamllnnilbaaGreatDoor.Mem Go.Proofs.YtijhamllnnilbaaGreatDoor.Pg Go.Proofs.YtijhamllnnilbaaGreatDoor.Kp
set_option linter.unusedSimpArgs false
set_option linter.unusedVariables false

theorem Shows.parts {b : List UInt8} {p : Pag} (h : Shows b p) : b[2]? = some (UInt8.ofNat p.k.toNat) ∧ b[3]? = some (UInt8.ofNat p.d.toNat) ∧ b[4]? = some 0 ∧ b[5]? = some (UInt8.ofNat p.x.toNat) ∧ b.drop 16 = p.l := by
 rcases h with ⟨_, rfl⟩ | ⟨rfl, rfl⟩
 · exact ⟨p.at2, p.at3, p.at4, p.at5, Pag.body⟩
 · refine ⟨?_, ?_, ?_, ?_, ?_⟩
   · rw [zs, List.getElem?_replicate, if_pos (by omega)]; rfl
   · rw [zs, List.getElem?_replicate, if_pos (by omega)]; rfl
   · rw [zs, List.getElem?_replicate, if_pos (by omega)]
   · rw [zs, List.getElem?_replicate, if_pos (by omega)]; rfl
   · simp only [zs, List.drop_replicate, Pag.zero]
theorem byte_at {b : List UInt8} {i : Nat} {a : Int} (h0 : 0 ≤ a) (h1 : a < 256) (h : b[i]? = some (UInt8.ofNat a.toNat)) (hi : i < (str b).size) : (((str b)[i]'hi).toNat : Int) = a := by
 have hl : i < b.length := by rw [← str_size b]; exact hi
 have h2 : b[i] = UInt8.ofNat a.toNat := by
  rw [List.getElem?_eq_getElem hl] at h
  exact Option.some.inj h
 have h3 : (str b)[i]'hi = b[i] := rfl
 rw [h3, h2, small_nat h0 h1]
theorem second_new (w : World) (o u : Obj) : ((w.alloc o).alloc u).drew.heap[w.heap.size + 1]? = some u := by
 have h := heap_alloc_new (w.alloc o) u
 have hs : (w.alloc o).heap.size = w.heap.size + 1 := by simp
 rw [hs] at h
 exact h
theorem Pag.ok_mk {k d x : Int} {l : List UInt8} (h1 : 0 ≤ k ∧ k < 6) (h2 : 0 ≤ d ∧ d ≤ 5) (h3 : 0 ≤ x ∧ x < 64) (h4 : l.length = 240) : Pag.ok ⟨k, d, x, l⟩ := ⟨h1.1, h1.2, h2.1, h2.2, h3.1, h3.2, h4⟩
theorem or_zero (x : Int) (h0 : 0 ≤ x) (h1 : x < 256) : bits .or .i64 0 x = x := by
 obtain ⟨n, rfl⟩ := Int.eq_ofNat_of_zero_le h0
 have h2 : (BitVec.ofInt 64 (n : Int)).toNat = n := by
  rw [BitVec.ofInt_natCast, BitVec.toNat_ofNat]; exact Nat.mod_eq_of_lt (by omega)
 have h3 : (BitVec.ofInt 64 (0 : Int)).toNat = 0 := by decide
 show IntKind.i64.wrap ((BitVec.ofInt 64 (0 : Int) ||| BitVec.ofInt 64 (n : Int)).toNat : Int) = _
 rw [BitVec.toNat_or, h2, h3, Nat.zero_or, IntWalk.i64_in _ (by omega)]
theorem cut_16 (b : List UInt8) (h : b.length = 256) : (str b).extract 16 (str b).size = str (b.drop 16) := by
 apply ByteArray.ext
 apply Array.toList_inj.1
 simp [ByteArray.data_extract, str_size]
 rw [List.take_of_length_le (by simp)]

set_option maxRecDepth 100000 in
set_option maxHeartbeats 4000000 in
theorem get_any (b : List UInt8) (p : Pag) (w : World) (ht : Tab w) (h : Shows b p) :
 Calls Tryz.prog 152 #[.string (str b)] w fun e w' => e = .returned (.tuple #[p.v, .bool true]) ∧ Below w.heap.size w w' := by
 have hok := h.ok
 obtain ⟨p2, p3, p4, p5, pb⟩ := h.parts
 have hlen := h.len
 have hcut := cut_16 b hlen
 rw [pb] at hcut
 have hput := put_yes p
 obtain ⟨k, d, x, l⟩ := p
 obtain ⟨k0, k1, d0, d1, x0, x1, hl⟩ := hok
 simp only at k0 k1 d0 d1 x0 x1 hl p2 p3 p5 pb hcut
 have s2 := byte_at (i := 2) k0 (by omega) p2
 have s3 := byte_at (i := 3) d0 (by omega) p3
 have s4 := byte_at (i := 4) (a := 0) (by omega) (by omega) p4
 have s5 := byte_at (i := 5) x0 (by omega) p5
 have hor := or_zero x x0 (by omega)
 obtain ⟨S, hS⟩ : ∃ S, S = str b := ⟨_, rfl⟩
 obtain ⟨T, hT⟩ : ∃ T, T = str l := ⟨_, rfl⟩
 have hSs : S.size = 256 := by rw [hS, str_size]; exact hlen
 simp only [Pag.v] at hput ⊢
 rw [← hS] at s2 s3 s4 s5 hcut ⊢
 rw [← hT] at hcut hput ⊢
 rw [hSs] at hcut
 have Hs := Lib.hid hS
 have HT := Lib.hid hT
 have Hh := Lib.hid h
 have Hk := Lib.hid (And.intro k0 k1)
 have Hl := Lib.hid hl
 have Hd := Lib.hid (And.intro d0 d1)
 have Hx := Lib.hid (And.intro x0 x1)
 have i2 : IntKind.i64.wrap k = k := IntWalk.i64_in _ (by omega)
 have i3 : IntKind.i64.wrap d = d := IntWalk.i64_in _ (by omega)
 have i5 : IntKind.i64.wrap x = x := IntWalk.i64_in _ (by omega)
 have hz : ∀ w, Calls Tryz.prog 131 #[.int .i64 256] w fun e w' => e = .returned (.string (str (zs 256))) ∧ Below w.heap.size w w' := fun w => zeros_any 256 w (by omega)
 clear p2 p3 p4 p5 pb k0 k1 d0 d1 x0 x1 hl hS hT h hlen
 go_enter Tryz.func152, Tryz.ntmps152
 go_wp2_with fail
 go_region
 go_wp2_with fail
 with_reducible refine (hz _).mono ?_
 rintro e w1 ⟨rfl, hb1⟩
 have q2 : w1.heap[w.heap.size]? = some (.cells #[.int .i64 0, .int .i64 0, .int .i64 0, .string ⟨#[]⟩] 113 (0, 0)) := (hb1.block _ (by simp; omega)).trans (hal (heap_alloc_new w _))
 have q4 : w1.heap[w.heap.size + 1]? = some (.cells #[.int .i64 k, .int .i64 d, .int .i64 x, .string T] 113 (0, 0)) := (hb1.block _ (by simp)).trans (second_new w _ _)
 have hbb : Below w.heap.size w w1 := below_base (a := ((w.alloc (.cells #[.int .i64 0, .int .i64 0, .int .i64 0, .string ⟨#[]⟩] 113)).alloc (.cells #[.int .i64 k, .int .i64 d, .int .i64 x, .string T] 113)).drew) (below_dr (below_al (below_al (Below.refl _ w) _) _)) (by simp; omega) hb1
 have c2 := blk_cell q2
 have f2 := blk_free q2
 have z2 := lt_of_block q2
 have c4 := blk_cell q4
 have z4 := lt_of_block q4
 have hT1 : Tab w1 := ht.below hbb
 obtain ⟨Z, hZ⟩ : ∃ Z, Z = str (zs 256) := ⟨_, rfl⟩
 rw [← hZ]
 clear hb1 s2 s3 s4 s5
 rcases Hh.out with ⟨_, hbb2⟩ | ⟨hbb2, _⟩
 · have hne : (S.toList == Z.toList) = false := (Lib.bytes_beq_false_iff _ _).2 (fun e => by
    rw [Hs.out, hZ, hbb2] at e
    have e := congrArg (fun t : ByteArray => t.data.toList) e
    exact Pag.bytes_ne _ e)
   have hpb : str (Pag.bytes ⟨k, d, x, l⟩) = S := by rw [Hs.out, hbb2]
   have hee : (S.toList == S.toList) = true := by simp
   rw [hpb] at hput
   clear hZ hbb2 hpb
   go_wp2_with fail
   with_reducible refine (hput _ hT1 (Pag.ok_mk Hk.out Hd.out Hx.out Hl.out)).mono ?_
   rintro e w2 ⟨rfl, hb2⟩
   have r2 := blk_keep q2 hb2
   have r4 := blk_keep q4 hb2
   have hbc := below_tr hbb hb2
   clear c2 f2 z2 c4 z4
   have c2 := blk_cell r2
   have f2 := blk_free r2
   have z2 := lt_of_block r2
   have c4 := blk_cell r4
   have z4 := lt_of_block r4
   clear q2 q4 hb2 r4
   go_wp2_with fail
   have c5 := blk_cell (set4_same r2 (.int .i64 k) (.int .i64 d) (.int .i64 x) (.string T))
   refine bodyPost_ret (v := .tuple #[.agg #[.int .i64 k, .int .i64 d, .int .i64 x, .string T], .bool true]) (by simp [results, Tryz.results152, go_sem, c2]) rfl ⟨rfl, ?_⟩
   exact below_set (below_set (below_set (below_set hbc (Nat.le_refl _)) (Nat.le_refl _)) (Nat.le_refl _)) (Nat.le_refl _)
 · have hne : (S.toList == Z.toList) = true := by
    have : S = Z := by rw [Hs.out, hZ, hbb2]
    rw [this]
    simp
   clear hZ hbb2 hput
   go_wp2_with fail
   refine bodyPost_ret (v := .tuple #[.agg #[.int .i64 k, .int .i64 d, .int .i64 x, .string T], .bool true]) (by simp [results, Tryz.results152, go_sem, c2]) rfl ⟨rfl, ?_⟩
   exact below_set (below_set (below_set (below_set hbb (Nat.le_refl _)) (Nat.le_refl _)) (Nat.le_refl _)) (Nat.le_refl _)
end Go.Proofs.YtijhamllnnilbaaGreatDoor.Gr
namespace Go.Proofs.YtijhamllnnilbaaGreatDoor.Gr
open Go.RowKit Go.Proofs.YtijhamllnnilbaaGreatDoor.Mem Go.Proofs.YtijhamllnnilbaaGreatDoor.Pg Go.Proofs.YtijhamllnnilbaaGreatDoor.Kp

theorem ikeyed : Maps.Keyed Tryz.prog 3 := Maps.int_keyed Tryz.underlying3
theorem zero_str (w : World) : (zeroValue 9).run Tryz.prog w = .ok (.string ⟨#[]⟩) w := by kernel_rfl
abbrev kl (i : Int) : Lit := .int .i64 i
theorem kl_ne {i j : Int} (h : i ≠ j) : kl i ≠ kl j := fun e => h (by injection e)
theorem kl_wf {i : Int} (h0 : 0 ≤ i) (h1 : i < 64) : (Lit.int .i64 i).wf = true := by
 have h2 : IntKind.i64.min = -9223372036854775808 := rfl
 have h3 : IntKind.i64.max = 9223372036854775807 := rfl
 simp only [Lit.wf, h2, h3, Bool.and_eq_true, decide_eq_true_eq]
 omega
theorem nodup_le : ∀ (m : Nat) (ks : List Int), ks.Nodup → (∀ i ∈ ks, 0 ≤ i ∧ i < m) → ks.length ≤ m
 | 0, ks, _, h => by
  cases ks with
  | nil => simp
  | cons a r => have := h a (by simp); omega
 | m + 1, ks, hn, h => by
  by_cases hm : (m : Int) ∈ ks
  · have h1 := nodup_le m (ks.erase (m : Int)) (hn.erase _) (fun i hi => by
     have h2 := hn.mem_erase_iff.1 hi
     have h3 := h i h2.2
     have h4 := h2.1
     omega)
    rw [List.length_erase_of_mem hm] at h1
    omega
  · have h1 := nodup_le m ks hn (fun i hi => by
     have h3 := h i hi
     have h4 : i ≠ m := fun e => hm (e ▸ hi)
     omega)
    omega

structure MapIs (w : World) (b : Nat) (F : Int → Option (List UInt8)) : Prop where
 ex : ∃ (D : DataW Unit) (ks : List Int), w.ownsMap Tryz.prog 3 (plainElem Tryz.prog 9) b (Maps.size D) D ∧ ks.Nodup ∧ Maps.size D = ks.length ∧ (∀ i, i ∈ ks ↔ F i ≠ none) ∧ (∀ i, Maps.has D (kl i) = (F i).isSome) ∧ ∀ i l, F i = some l → D.atKey (kl i) (.lit (.string [])) = .lit (.string l)
 rng : ∀ i l, F i = some l → 0 ≤ i ∧ i < 64 ∧ l.length ≤ 1000000
def upd (F : Int → Option (List UInt8)) (i : Int) (l : List UInt8) : Int → Option (List UInt8) := fun j => if j = i then some l else F j
theorem upd_same (F : Int → Option (List UInt8)) (i : Int) (l : List UInt8) : upd F i l i = some l := if_pos rfl
theorem upd_other (F : Int → Option (List UInt8)) {i j : Int} (l : List UInt8) (h : j ≠ i) : upd F i l j = F j := if_neg h

theorem owns_tight {w : World} {b n : Nat} {D : DataW Unit} {k : TypeId} {R : Value → Option (DataW Unit × List MemPlace)} (h : w.ownsMap Tryz.prog k R b n D) : w.ownsMap Tryz.prog k R b (Maps.size D) D := by
 obtain ⟨es, clock, hb, F, _, rfl⟩ := h
 refine ⟨es, clock, hb, F, ?_, rfl⟩
 rw [Maps.size_eq, length_read]
 exact Nat.le_refl _
theorem owns_block {w w' : World} {b n : Nat} {D : DataW Unit} {k : TypeId} {R : Value → Option (DataW Unit × List MemPlace)} (h : w.ownsMap Tryz.prog k R b n D) (e : w'.heap[b]? = w.heap[b]?) : w'.ownsMap Tryz.prog k R b n D := by
 obtain ⟨es, clock, hb, F, hs, rfl⟩ := h
 exact ⟨es, clock, e.trans hb, F, hs, rfl⟩

section
variable {w w' : World} {b : Nat} {F : Int → Option (List UInt8)}
theorem MapIs.lt (h : MapIs w b F) : b < w.heap.size := by
 obtain ⟨D, ks, ho, _⟩ := h.ex
 exact ho.lt
theorem MapIs.block (h : MapIs w b F) (e : w'.heap[b]? = w.heap[b]?) : MapIs w' b F := by
 obtain ⟨D, ks, ho, rest⟩ := h.ex
 exact ⟨⟨D, ks, owns_block ho e, rest⟩, h.rng⟩
theorem MapIs.made (w : World) : MapIs (w.alloc (.map #[] 0)) w.heap.size (fun _ => none) := by
 refine ⟨⟨.map [], [], World.ownsMap_made w _ _ _, List.nodup_nil, rfl, by simp, ?_, ?_⟩, ?_⟩
 · intro i; rfl
 · intro i l h; cases h
 · intro i l h; cases h
theorem MapIs.look (h : MapIs w b F) (i : Int) (hi : (Lit.int .i64 i).wf = true) :
 (Instr.lookup 117 (.map (some b)) (.int .i64 i) true).run Tryz.prog w = .ok (.tuple #[.string (str ((F i).getD [])), .bool (F i).isSome]) w := by
 obtain ⟨D, ks, ho, hn, hsz, hks, hhas, hat⟩ := h.ex
 have hz := plainElem_string (H := Unit) (P := Tryz.prog) (e := 9) Tryz.underlying9 (s := ⟨#[]⟩) (by simp [ByteArray.size, maxLen])
 obtain ⟨v, ps, hrun, hv⟩ := ho.look_ok ikeyed Tryz.underlying117 (zero_str w) hz (Maps.keyOf_int_mk Tryz.underlying3 hi)
 rw [hhas i] at hrun
 obtain ⟨s, rfl, hs, _⟩ := plainElem_string_inv Tryz.underlying9 hv
 have hs1 : D.atKey (kl i) (.lit (.string [])) = .lit (.string s.data.toList) := (Prod.mk.inj hs).1
 rcases e : F i with _ | l
 · rw [e] at hrun
   have h1 : Maps.has D (kl i) = false := by rw [hhas i, e]; rfl
   rw [Maps.atKey_of_not_has h1] at hs1
   simp only [DataW.lit.injEq, Lit.string.injEq] at hs1
   have hs2 : s = str s.data.toList := str_of s
   rw [← hs1] at hs2
   rw [hs2] at hrun
   simp only [Option.getD_none, Option.isSome_none] at hrun ⊢
   exact hrun
 · rw [e] at hrun
   rw [hat i l e] at hs1
   simp only [DataW.lit.injEq, Lit.string.injEq] at hs1
   have hs2 : s = str s.data.toList := str_of s
   rw [← hs1] at hs2
   rw [hs2] at hrun
   simp only [Option.getD_some, Option.isSome_some] at hrun ⊢
   exact hrun
theorem MapIs.put (h : MapIs w b F) (i : Int) (h0 : 0 ≤ i) (h1 : i < 64) (l : List UInt8) (hl : l.length ≤ 1000000) :
 ∃ w', (Instr.mapUpdate 117 (.map (some b)) (.int .i64 i) (.string (str l))).run Tryz.prog w = .ok () w' ∧ MapIs w' b (upd F i l) ∧ w.grownBy w' (some b) := by
 obtain ⟨D, ks, ho, hn, hsz, hks, hhas, hat⟩ := h.ex
 have hwf := kl_wf h0 h1
 have hlen : ks.length ≤ 64 := nodup_le 64 ks hn (fun j hj => by
  rcases e : F j with _ | l'
  · exact absurd e ((hks j).1 hj)
  · have := h.rng j l' e
    exact ⟨this.1, this.2.1⟩)
 have hkey := Maps.keyOf_int_mk Tryz.underlying3 hwf
 have hisk : WideAt.IsKeyLit (kl i) := ikeyed.key hkey
 have hv : plainElem (H := Unit) Tryz.prog 9 (.string (str l)) = some (.lit (.string l), []) := plainElem_string Tryz.underlying9 (by rw [str_size]; unfold maxLen; omega)
 obtain ⟨w', hrun, hown, hg⟩ := ho.update ikeyed Tryz.underlying117 (by rw [hsz]; unfold maxLen; omega) hkey hv
 have htidy := ho.tidy ikeyed
 have hsz' := Maps.size_put (k := kl i) htidy (.lit (.string l))
 refine ⟨w', hrun, ⟨⟨D.put (kl i) (.lit (.string l)), if F i = none then i :: ks else ks, owns_tight hown, ?_, ?_, ?_, ?_, ?_⟩, ?_⟩, hg⟩
 · split
   · rename_i e
     exact List.nodup_cons.2 ⟨fun hi => (hks i).1 hi e, hn⟩
   · exact hn
 · rw [hsz', hhas i]
   rcases e : F i with _ | l'
   · simp [hsz]
   · simp [hsz]
 · intro j
   by_cases hj : j = i
   · subst hj
     rw [upd_same]
     split
     · simp
     · rename_i e
       simpa using (hks j).2 e
   · rw [upd_other _ _ hj, ← hks j]
     split
     · simp [hj]
     · exact Iff.rfl
 · intro j
   by_cases hj : j = i
   · subst hj
     rw [upd_same, Maps.has_put_same htidy.isMap hisk]
     rfl
   · rw [upd_other _ _ hj, Maps.has_put_other (kl_ne hj)]
     exact hhas j
 · intro j l' hjl
   by_cases hj : j = i
   · subst hj
     rw [upd_same] at hjl
     rw [Maps.atKey_put_same htidy.isMap hisk, Option.some.inj hjl]
   · rw [upd_other _ _ hj] at hjl
     rw [Maps.atKey_put_other (kl_ne hj)]
     exact hat j l' hjl
 · intro j l' hjl
   by_cases hj : j = i
   · subst hj
     rw [upd_same] at hjl
     rw [← Option.some.inj hjl]
     exact ⟨h0, h1, hl⟩
   · rw [upd_other _ _ hj] at hjl
     exact h.rng j l' hjl
end
end Go.Proofs.YtijhamllnnilbaaGreatDoor.Gr
namespace Go.Proofs.YtijhamllnnilbaaGreatDoor.Gr
open Go.RowKit Go.Proofs.YtijhamllnnilbaaGreatDoor.Mem Go.Proofs.YtijhamllnnilbaaGreatDoor.Pg Go.Proofs.YtijhamllnnilbaaGreatDoor.Kp
set_option linter.unusedSimpArgs false
set_option linter.unusedVariables false

structure Sto (w : World) (sb qb n c : Nat) (dead : Int) (B : Nat → List UInt8) : Prop where
 sto : w.heap[sb]? = some (.cells #[.slice (some ⟨qb, 0, none⟩) n c, .int .i64 dead] 115 (0, 0))
 pgs : ∃ cs, w.heap[qb]? = some (.cells cs 9 (0, 0)) ∧ ∀ i, i < n → cs[i]? = some (.string (str (B i)))
 le : n ≤ 64
 ne : sb ≠ qb
 sm : ∀ i, i < n → (B i).length ≤ 1000
def rd (n : Nat) (dead : Int) (B : Nat → List UInt8) (i : Int) : List UInt8 × Int := if i = dead then ([], 10) else if 0 ≤ i ∧ i < n then (B i.toNat, 0) else ([], 12)
section
variable {w w' : World} {sb qb n c : Nat} {dead : Int} {B : Nat → List UInt8}
theorem Sto.block (h : Sto w sb qb n c dead B) (e1 : w'.heap[sb]? = w.heap[sb]?) (e2 : w'.heap[qb]? = w.heap[qb]?) : Sto w' sb qb n c dead B := by
 obtain ⟨cs, h1, h2⟩ := h.pgs
 exact ⟨e1.trans h.sto, ⟨cs, e2.trans h1, h2⟩, h.le, h.ne, h.sm⟩
theorem Sto.lt1 (h : Sto w sb qb n c dead B) : sb < w.heap.size := lt_of_block h.sto
theorem Sto.lt2 (h : Sto w sb qb n c dead B) : qb < w.heap.size := by
 obtain ⟨cs, h1, _⟩ := h.pgs
 exact lt_of_block h1
theorem Sto.below (h : Sto w sb qb n c dead B) (k : Below w.heap.size w w') : Sto w' sb qb n c dead B := h.block (k.block _ h.lt1) (k.block _ h.lt2)
theorem Sto.keep {S : Nat → Prop} (h : Sto w sb qb n c dead B) (k : Keep S w w') (h1 : ¬ S sb) (h2 : ¬ S qb) : Sto w' sb qb n c dead B := h.block (k.block _ h.lt1 h1) (k.block _ h.lt2 h2)
end
set_option maxRecDepth 100000 in
theorem read_any (w : World) (sb qb n c : Nat) (dead : Int) (B : Nat → List UInt8) (i : Int) (h : Sto w sb qb n c dead B) :
 Calls Tryz.prog 16 #[.pointer (some ⟨sb, 0, none⟩), .int .i64 i] w fun e w' => e = .returned (.tuple #[.string (str (rd n dead B i).1), .int .i64 (rd n dead B i).2]) ∧ w' = w := by
 have hs := h.sto
 have h64 := h.le
 obtain ⟨cs, hq, hcs⟩ := h.pgs
 have c1 := blk_cell hs
 have z1 := lt_of_block hs
 have z2 := lt_of_block hq
 by_cases hd : i = dead
 · have e : rd n dead B i = ([], 10) := if_pos hd
   rw [e]
   have d1 : (i == dead) = true := by simpa using hd
   have d1' : decide (i = dead) = true := by simpa using hd
   clear hd hs hq hcs h e
   go_enter Tryz.func16, Tryz.ntmps16
   go_wp2_with fail
   go_ret2
   exact ⟨rfl, rfl⟩
 · have d1 : (i == dead) = false := by simpa using hd
   have d1' : decide (i = dead) = false := by simpa using hd
   by_cases h0 : i < 0
   · have e : rd n dead B i = ([], 12) := by unfold rd; rw [if_neg hd, if_neg (by omega)]
     rw [e]
     have d2 : decide (i < 0) = true := by simpa using h0
     clear hd hs hq hcs h e h0
     go_enter Tryz.func16, Tryz.ntmps16
     go_wp2_with fail
     go_ret2
     exact ⟨rfl, rfl⟩
   · have d2 : decide (i < 0) = false := by simpa using h0
     obtain ⟨j, rfl⟩ := Int.eq_ofNat_of_zero_le (show 0 ≤ i by omega)
     by_cases hn : j < n
     · have e : rd n dead B j = (B j, 0) := by unfold rd; rw [if_neg hd, if_pos ⟨by omega, by omega⟩, Int.toNat_natCast]
       rw [e]
       have c2 := (blk_cell hq j).trans (hcs j hn)
       have d3 : decide ((n : Int) ≤ (j : Int)) = false := by simp; omega
       have d3' : decide (n ≤ j) = false := by simp; omega
       obtain ⟨T, hT⟩ : ∃ T, T = str (B j) := ⟨_, rfl⟩
       simp only
       rw [← hT] at c2 ⊢
       clear hd hs hq hcs h e h0 hT
       go_enter Tryz.func16, Tryz.ntmps16
       go_wp2_with fail
       go_ret2
       exact ⟨rfl, rfl⟩
     · have e : rd n dead B j = ([], 12) := by unfold rd; rw [if_neg hd, if_neg (by omega)]
       rw [e]
       have d3 : decide ((n : Int) ≤ (j : Int)) = true := by simp; omega
       have d3' : decide (n ≤ j) = true := by simp; omega
       clear hd hs hq hcs h e h0
       go_enter Tryz.func16, Tryz.ntmps16
       go_wp2_with fail
       go_ret2
       exact ⟨rfl, rfl⟩

abbrev rdv (sb : Nat) : Value := .func (.func 16) #[.pointer (some ⟨sb, 0, none⟩)] #[]
structure Grp (w : World) (gb mb sb : Nat) (M : Int → Option (List UInt8)) (tk : Int) : Prop where
 grp : w.heap[gb]? = some (.cells #[rdv sb, .map (some mb), .int .i64 tk] 119 (0, 0))
 map : MapIs w mb M
section
variable {w w' : World} {gb mb sb : Nat} {M : Int → Option (List UInt8)} {tk : Int}
theorem Grp.lt1 (h : Grp w gb mb sb M tk) : gb < w.heap.size := lt_of_block h.grp
theorem Grp.lt2 (h : Grp w gb mb sb M tk) : mb < w.heap.size := h.map.lt
theorem Grp.block (h : Grp w gb mb sb M tk) (e1 : w'.heap[gb]? = w.heap[gb]?) (e2 : w'.heap[mb]? = w.heap[mb]?) : Grp w' gb mb sb M tk := ⟨e1.trans h.grp, h.map.block e2⟩
theorem Grp.below (h : Grp w gb mb sb M tk) (k : Below w.heap.size w w') : Grp w' gb mb sb M tk := h.block (k.block _ h.lt1) (k.block _ h.lt2)
theorem Grp.keep {S : Nat → Prop} (h : Grp w gb mb sb M tk) (k : Keep S w w') (h1 : ¬ S gb) (h2 : ¬ S mb) : Grp w' gb mb sb M tk := h.block (k.block _ h.lt1 h1) (k.block _ h.lt2 h2)
end
theorem func_not_nil (f : Fn) (a b : Array Value) (w : World) : (binOp BinOp.eql 116 (.func f a b) .nilFunc).run Tryz.prog w = .ok (.bool false) w := by kernel_rfl

set_option maxRecDepth 100000 in
theorem gnew_any (w : World) (sb : Nat) :
 Calls Tryz.prog 15 #[rdv sb] w fun e w' => ∃ gb mb, e = .returned (.pointer (some ⟨gb, 0, none⟩)) ∧ w.heap.size ≤ mb ∧ w.heap.size ≤ gb ∧ gb ≠ mb ∧ Below w.heap.size w w' ∧ Grp w' gb mb sb (fun _ => none) 0 := by
 have hnn := func_not_nil (.func 16) #[.pointer (some ⟨sb, 0, none⟩)] #[]
 have hmk : ∀ W : World, (Instr.makeMap 117 none).run Tryz.prog W = .ok (.map (some W.heap.size)) (W.alloc (.map #[] 0)) := fun W => run_makeMap _ W
 go_enter Tryz.func15, Tryz.ntmps15
 go_wp2_with fail
 go_ret
 refine ⟨w.heap.size + 1, w.heap.size, rfl, Nat.le_refl _, by omega, by omega, below_al (below_al (Below.refl _ w) _) _, ?_, ?_⟩
 · have := heap_alloc_new (w.alloc (.map #[] 0)) (.cells #[rdv sb, .map (some w.heap.size), .int .i64 0] 119)
   simpa using this
 · exact (MapIs.made w).block (heap_alloc_old _ _ (by simp))
end Go.Proofs.YtijhamllnnilbaaGreatDoor.Gr
