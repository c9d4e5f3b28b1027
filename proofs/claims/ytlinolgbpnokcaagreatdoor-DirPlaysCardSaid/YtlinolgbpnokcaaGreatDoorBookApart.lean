/- The contract of the book's Apart: lists that lie in rows of their own are apart. (Printed by tools/gen_apart.py.) -/
import Derived.Test.YtlinolgbpnokcaaGreatDoorBookMarked
namespace Go.Proofs.YtlinolgbpnokcaaGreatDoor.Bk
open Go.RowKit Go.Proofs.YtlinolgbpnokcaaGreatDoor.Mem

theorem Gr.at {B pb n j q : Nat} {w : World} {o : Nat → Nat} {V O : Nat → Value} {L : Nat → Nat} {vI vW vo : Value} (h : Gr B pb n j q w o V O L vI vW vo) : At w pb := by
  obtain ⟨A, c, rfl⟩ := own_slice h.rI
  obtain ⟨A', c', rfl⟩ := h.sl
  exact ⟨(A, n, c), (A', n, c'), h.blk⟩

set_option maxRecDepth 100000 in
set_option maxHeartbeats 8000000 in
theorem apart_any {B pb n : Nat} {w : World} {o : Nat → Nat} {V U : Nat → Value} {X : Nat → List Int} {vI vW : Value} (hk : Book B pb n w o V U X vI vW) (hBw : B ≤ w.heap.size) (hn : n ≤ 250) (hX : ∀ i, i < n → (X i).length ≤ 1000000) :
    Calls Tryz.prog 16 #[.pointer (some ⟨pb, 0, none⟩)] w fun e w' => e = .returned (.bool true) ∧ Below B w w' := by
  have Hk := Lib.hid hk
  have HX := Lib.hid hX
  have b0 : Below B w w := Below.refl B w
  clear hk hX
  go_enter Tryz.func16, Tryz.ntmps16
  go_wp2_with fail
  refine (still_any Hk.out hn).mono ?_
  rintro e w1 ⟨rfl, hb⟩
  have b1 := below_base b0 (Nat.le_trans hBw b0.size) hb
  replace Hk := Lib.hid (Hk.out.below hb)
  clear hb b0
  go_wp2_with fail
  refine (stillTexts pb _ Hk.out.at).mono ?_
  rintro e w2 ⟨rfl, hb⟩
  have b2 := below_base b1 (Nat.le_trans hBw b1.size) hb
  replace Hk := Lib.hid (Hk.out.below hb)
  clear hb b1
  go_wp2_with fail
  refine (stillCells pb _ Hk.out.at).mono ?_
  rintro e w3 ⟨rfl, hb⟩
  have b3 := below_base b2 (Nat.le_trans hBw b2.size) hb
  replace Hk := Lib.hid (Hk.out.below hb)
  clear hb b2
  go_wp2_with fail
  refine (stillPages pb _ Hk.out.at).mono ?_
  rintro e w4 ⟨rfl, hb⟩
  have b4 := below_base b3 (Nat.le_trans hBw b3.size) hb
  replace Hk := Lib.hid (Hk.out.below hb)
  clear hb b3
  go_wp2_with fail
  refine (stillPatches pb _ Hk.out.at).mono ?_
  rintro e w5 ⟨rfl, hb⟩
  have b5 := below_base b4 (Nat.le_trans hBw b4.size) hb
  replace Hk := Lib.hid (Hk.out.below hb)
  clear hb b4
  go_wp2_with fail
  refine (stillDirty pb _ Hk.out.at).mono ?_
  rintro e w6 ⟨rfl, hb⟩
  have b6 := below_base b5 (Nat.le_trans hBw b5.size) hb
  replace Hk := Lib.hid (Hk.out.below hb)
  clear hb b5
  go_wp2_with fail
  refine (stillEntries pb _ Hk.out.at).mono ?_
  rintro e w7 ⟨rfl, hb⟩
  have b7 := below_base b6 (Nat.le_trans hBw b6.size) hb
  replace Hk := Lib.hid (Hk.out.below hb)
  clear hb b6
  go_wp2_with fail
  refine (stillPairs pb _ Hk.out.at).mono ?_
  rintro e w8 ⟨rfl, hb⟩
  have b8 := below_base b7 (Nat.le_trans hBw b7.size) hb
  replace Hk := Lib.hid (Hk.out.below hb)
  clear hb b7
  go_wp2_with fail
  refine (stillTxs pb _ Hk.out.at).mono ?_
  rintro e w9 ⟨rfl, hb⟩
  have b9 := below_base b8 (Nat.le_trans hBw b8.size) hb
  replace Hk := Lib.hid (Hk.out.below hb)
  clear hb b8
  have HL := Lib.hid Hk.out.lists
  clear Hk
  go_wp2_with fail
  refine (putTxs pb _ HL.out.at).mono ?_
  rintro e w10 ⟨rfl, hb⟩
  have b10 := below_base b9 (Nat.le_trans hBw b9.size) hb
  replace HL := Lib.hid (HL.out.below hb)
  clear hb b9
  go_wp2_with fail
  refine (put_any HL.out (Nat.le_trans hBw b10.size) hn HX.out).mono ?_
  rintro e w11 ⟨rfl, hL, hb, _⟩
  have b11 := b10.trans hb
  replace HL := Lib.hid hL
  clear hL hb b10
  go_wp2_with fail
  refine (putTexts pb _ HL.out.at).mono ?_
  rintro e w12 ⟨rfl, hb⟩
  have b12 := below_base b11 (Nat.le_trans hBw b11.size) hb
  replace HL := Lib.hid (HL.out.below hb)
  clear hb b11
  go_wp2_with fail
  refine (putCells pb _ HL.out.at).mono ?_
  rintro e w13 ⟨rfl, hb⟩
  have b13 := below_base b12 (Nat.le_trans hBw b12.size) hb
  replace HL := Lib.hid (HL.out.below hb)
  clear hb b12
  go_wp2_with fail
  refine (putPages pb _ HL.out.at).mono ?_
  rintro e w14 ⟨rfl, hb⟩
  have b14 := below_base b13 (Nat.le_trans hBw b13.size) hb
  replace HL := Lib.hid (HL.out.below hb)
  clear hb b13
  go_wp2_with fail
  refine (putPatches pb _ HL.out.at).mono ?_
  rintro e w15 ⟨rfl, hb⟩
  have b15 := below_base b14 (Nat.le_trans hBw b14.size) hb
  replace HL := Lib.hid (HL.out.below hb)
  clear hb b14
  go_wp2_with fail
  refine (putDirty pb _ HL.out.at).mono ?_
  rintro e w16 ⟨rfl, hb⟩
  have b16 := below_base b15 (Nat.le_trans hBw b15.size) hb
  replace HL := Lib.hid (HL.out.below hb)
  clear hb b15
  go_wp2_with fail
  refine (putEntries pb _ HL.out.at).mono ?_
  rintro e w17 ⟨rfl, hb⟩
  have b17 := below_base b16 (Nat.le_trans hBw b16.size) hb
  replace HL := Lib.hid (HL.out.below hb)
  clear hb b16
  go_wp2_with fail
  refine (putPairs pb _ HL.out.at).mono ?_
  rintro e w18 ⟨rfl, hb⟩
  have b18 := below_base b17 (Nat.le_trans hBw b17.size) hb
  replace HL := Lib.hid (HL.out.below hb)
  clear hb b17
  have HG := Lib.hid (HL.out.gr (O := V) (L := fun i => (X i).length) fun i _ => rfl)
  clear HL
  go_wp2_with fail
  refine (grow_any HG.out (Nat.le_trans hBw b18.size) hn HX.out).mono ?_
  rintro e w19 ⟨o', O, vo, rfl, hG, hb⟩
  have b19 := b18.trans hb
  replace HG := Lib.hid hG
  clear hG hb b18
  obtain ⟨Ao, co, rfl⟩ := own_slice HG.out.ro
  go_wp2_with fail
  refine (growTexts pb _ HG.out.at).mono ?_
  rintro e w20 ⟨rfl, hb⟩
  have b20 := below_base b19 (Nat.le_trans hBw b19.size) hb
  replace HG := Lib.hid (HG.out.below hb)
  clear hb b19
  go_wp2_with fail
  refine (growCells pb _ HG.out.at).mono ?_
  rintro e w21 ⟨rfl, hb⟩
  have b21 := below_base b20 (Nat.le_trans hBw b20.size) hb
  replace HG := Lib.hid (HG.out.below hb)
  clear hb b20
  go_wp2_with fail
  refine (growPages pb _ HG.out.at).mono ?_
  rintro e w22 ⟨rfl, hb⟩
  have b22 := below_base b21 (Nat.le_trans hBw b21.size) hb
  replace HG := Lib.hid (HG.out.below hb)
  clear hb b21
  go_wp2_with fail
  refine (growPatches pb _ HG.out.at).mono ?_
  rintro e w23 ⟨rfl, hb⟩
  have b23 := below_base b22 (Nat.le_trans hBw b22.size) hb
  replace HG := Lib.hid (HG.out.below hb)
  clear hb b22
  go_wp2_with fail
  refine (growDirty pb _ HG.out.at).mono ?_
  rintro e w24 ⟨rfl, hb⟩
  have b24 := below_base b23 (Nat.le_trans hBw b23.size) hb
  replace HG := Lib.hid (HG.out.below hb)
  clear hb b23
  go_wp2_with fail
  refine (growEntries pb _ HG.out.at).mono ?_
  rintro e w25 ⟨rfl, hb⟩
  have b25 := below_base b24 (Nat.le_trans hBw b24.size) hb
  replace HG := Lib.hid (HG.out.below hb)
  clear hb b24
  go_wp2_with fail
  refine (growPairs pb _ HG.out.at).mono ?_
  rintro e w26 ⟨rfl, hb⟩
  have b26 := below_base b25 (Nat.le_trans hBw b25.size) hb
  replace HG := Lib.hid (HG.out.below hb)
  clear hb b25
  go_wp2_with fail
  refine (growTxs pb _ HG.out.at).mono ?_
  rintro e w27 ⟨rfl, hb⟩
  have b27 := below_base b26 (Nat.le_trans hBw b26.size) hb
  replace HG := Lib.hid (HG.out.below hb)
  clear hb b26
  go_wp2_with fail
  refine (marked_any HG.out.ro (fun i hi => Rd.of (HG.out.rO i hi)) hn (fun i hi => by have := HX.out i hi; omega)).mono ?_
  rintro e w28 ⟨rfl, hb⟩
  have b28 := below_base b27 (Nat.le_trans hBw b27.size) hb
  replace HG := Lib.hid (HG.out.below hb)
  clear hb b27
  have c1 := blk_cell HG.out.blk
  have z1 := lt_of_block HG.out.blk
  obtain ⟨aI, cI, hvI⟩ := own_slice HG.out.rI
  obtain ⟨aW, cW, hvW⟩ := HG.out.sl
  rw [hvI, hvW] at c1
  have rI := HG.out.rI
  rw [hvI] at rI
  go_wp2_with fail
  refine (marked_any rI HG.out.rd hn (fun i hi => by have := HX.out i hi; omega)).mono ?_
  rintro e w29 ⟨rfl, hb⟩
  have b29 := below_base b28 (Nat.le_trans hBw b28.size) hb
  replace HG := Lib.hid (HG.out.below hb)
  clear hb b28
  clear c1 z1 rI hvI hvW
  go_wp2_with fail
  refine (markedTexts _).mono ?_
  rintro e w30 ⟨rfl, hb⟩
  have b30 := below_base b29 (Nat.le_trans hBw b29.size) hb
  replace HG := Lib.hid (HG.out.below hb)
  clear hb b29
  have c1 := blk_cell HG.out.blk
  have z1 := lt_of_block HG.out.blk
  obtain ⟨aI, cI, hvI⟩ := own_slice HG.out.rI
  obtain ⟨aW, cW, hvW⟩ := HG.out.sl
  rw [hvI, hvW] at c1
  have rI := HG.out.rI
  rw [hvI] at rI
  go_wp2_with fail
  refine (markedTexts _).mono ?_
  rintro e w31 ⟨rfl, hb⟩
  have b31 := below_base b30 (Nat.le_trans hBw b30.size) hb
  replace HG := Lib.hid (HG.out.below hb)
  clear hb b30
  clear c1 z1 rI hvI hvW
  go_wp2_with fail
  refine (markedCells _).mono ?_
  rintro e w32 ⟨rfl, hb⟩
  have b32 := below_base b31 (Nat.le_trans hBw b31.size) hb
  replace HG := Lib.hid (HG.out.below hb)
  clear hb b31
  have c1 := blk_cell HG.out.blk
  have z1 := lt_of_block HG.out.blk
  obtain ⟨aI, cI, hvI⟩ := own_slice HG.out.rI
  obtain ⟨aW, cW, hvW⟩ := HG.out.sl
  rw [hvI, hvW] at c1
  have rI := HG.out.rI
  rw [hvI] at rI
  go_wp2_with fail
  refine (markedCells _).mono ?_
  rintro e w33 ⟨rfl, hb⟩
  have b33 := below_base b32 (Nat.le_trans hBw b32.size) hb
  replace HG := Lib.hid (HG.out.below hb)
  clear hb b32
  clear c1 z1 rI hvI hvW
  go_wp2_with fail
  refine (markedPages _).mono ?_
  rintro e w34 ⟨rfl, hb⟩
  have b34 := below_base b33 (Nat.le_trans hBw b33.size) hb
  replace HG := Lib.hid (HG.out.below hb)
  clear hb b33
  have c1 := blk_cell HG.out.blk
  have z1 := lt_of_block HG.out.blk
  obtain ⟨aI, cI, hvI⟩ := own_slice HG.out.rI
  obtain ⟨aW, cW, hvW⟩ := HG.out.sl
  rw [hvI, hvW] at c1
  have rI := HG.out.rI
  rw [hvI] at rI
  go_wp2_with fail
  refine (markedPages _).mono ?_
  rintro e w35 ⟨rfl, hb⟩
  have b35 := below_base b34 (Nat.le_trans hBw b34.size) hb
  replace HG := Lib.hid (HG.out.below hb)
  clear hb b34
  clear c1 z1 rI hvI hvW
  go_wp2_with fail
  refine (markedPatches _).mono ?_
  rintro e w36 ⟨rfl, hb⟩
  have b36 := below_base b35 (Nat.le_trans hBw b35.size) hb
  replace HG := Lib.hid (HG.out.below hb)
  clear hb b35
  have c1 := blk_cell HG.out.blk
  have z1 := lt_of_block HG.out.blk
  obtain ⟨aI, cI, hvI⟩ := own_slice HG.out.rI
  obtain ⟨aW, cW, hvW⟩ := HG.out.sl
  rw [hvI, hvW] at c1
  have rI := HG.out.rI
  rw [hvI] at rI
  go_wp2_with fail
  refine (markedPatches _).mono ?_
  rintro e w37 ⟨rfl, hb⟩
  have b37 := below_base b36 (Nat.le_trans hBw b36.size) hb
  replace HG := Lib.hid (HG.out.below hb)
  clear hb b36
  clear c1 z1 rI hvI hvW
  go_wp2_with fail
  refine (markedDirty _).mono ?_
  rintro e w38 ⟨rfl, hb⟩
  have b38 := below_base b37 (Nat.le_trans hBw b37.size) hb
  replace HG := Lib.hid (HG.out.below hb)
  clear hb b37
  have c1 := blk_cell HG.out.blk
  have z1 := lt_of_block HG.out.blk
  obtain ⟨aI, cI, hvI⟩ := own_slice HG.out.rI
  obtain ⟨aW, cW, hvW⟩ := HG.out.sl
  rw [hvI, hvW] at c1
  have rI := HG.out.rI
  rw [hvI] at rI
  go_wp2_with fail
  refine (markedDirty _).mono ?_
  rintro e w39 ⟨rfl, hb⟩
  have b39 := below_base b38 (Nat.le_trans hBw b38.size) hb
  replace HG := Lib.hid (HG.out.below hb)
  clear hb b38
  clear c1 z1 rI hvI hvW
  go_wp2_with fail
  refine (markedEntries _).mono ?_
  rintro e w40 ⟨rfl, hb⟩
  have b40 := below_base b39 (Nat.le_trans hBw b39.size) hb
  replace HG := Lib.hid (HG.out.below hb)
  clear hb b39
  have c1 := blk_cell HG.out.blk
  have z1 := lt_of_block HG.out.blk
  obtain ⟨aI, cI, hvI⟩ := own_slice HG.out.rI
  obtain ⟨aW, cW, hvW⟩ := HG.out.sl
  rw [hvI, hvW] at c1
  have rI := HG.out.rI
  rw [hvI] at rI
  go_wp2_with fail
  refine (markedEntries _).mono ?_
  rintro e w41 ⟨rfl, hb⟩
  have b41 := below_base b40 (Nat.le_trans hBw b40.size) hb
  replace HG := Lib.hid (HG.out.below hb)
  clear hb b40
  clear c1 z1 rI hvI hvW
  go_wp2_with fail
  refine (markedPairs _).mono ?_
  rintro e w42 ⟨rfl, hb⟩
  have b42 := below_base b41 (Nat.le_trans hBw b41.size) hb
  replace HG := Lib.hid (HG.out.below hb)
  clear hb b41
  have c1 := blk_cell HG.out.blk
  have z1 := lt_of_block HG.out.blk
  obtain ⟨aI, cI, hvI⟩ := own_slice HG.out.rI
  obtain ⟨aW, cW, hvW⟩ := HG.out.sl
  rw [hvI, hvW] at c1
  have rI := HG.out.rI
  rw [hvI] at rI
  go_wp2_with fail
  refine (markedPairs _).mono ?_
  rintro e w43 ⟨rfl, hb⟩
  have b43 := below_base b42 (Nat.le_trans hBw b42.size) hb
  replace HG := Lib.hid (HG.out.below hb)
  clear hb b42
  clear c1 z1 rI hvI hvW
  go_wp2_with fail
  refine (markedTxs _).mono ?_
  rintro e w44 ⟨rfl, hb⟩
  have b44 := below_base b43 (Nat.le_trans hBw b43.size) hb
  replace HG := Lib.hid (HG.out.below hb)
  clear hb b43
  have c1 := blk_cell HG.out.blk
  have z1 := lt_of_block HG.out.blk
  obtain ⟨aI, cI, hvI⟩ := own_slice HG.out.rI
  obtain ⟨aW, cW, hvW⟩ := HG.out.sl
  rw [hvI, hvW] at c1
  have rI := HG.out.rI
  rw [hvI] at rI
  go_wp2_with fail
  refine (markedTxs _).mono ?_
  rintro e w45 ⟨rfl, hb⟩
  have b45 := below_base b44 (Nat.le_trans hBw b44.size) hb
  replace HG := Lib.hid (HG.out.below hb)
  clear hb b44
  clear c1 z1 rI hvI hvW
  go_wp2
  go_ret
  exact ⟨rfl, b45⟩
end Go.Proofs.YtlinolgbpnokcaaGreatDoor.Bk
