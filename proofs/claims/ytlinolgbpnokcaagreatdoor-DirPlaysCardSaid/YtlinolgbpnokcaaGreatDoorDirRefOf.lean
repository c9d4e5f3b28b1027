/- The contract of the reference's DirOf: the page of entries. -/
import Derived.Test.YtlinolgbpnokcaaGreatDoorDirPage
import Derived.Test.YtlinolgbpnokcaaGreatDoorDirRefBytes
namespace Go.Proofs.YtlinolgbpnokcaaGreatDoor.Dr
open Go.RowKit Go.Proofs.YtlinolgbpnokcaaGreatDoor.Mem Go.Proofs.YtlinolgbpnokcaaGreatDoor.Pg

theorem str_app (a b : List UInt8) : str a ++ str b = str (a ++ b) := by
  apply ByteArray.ext
  apply Array.toList_inj.1
  simp [ByteArray.data_append]
theorem encL_snoc (xs : List Int) (x : Int) : encL (xs ++ [x]) = encL xs ++ [0, UInt8.ofNat x.toNat] := by
  rw [encL, nums_snoc, List.map_append, ← encL]
  rfl

set_option maxRecDepth 100000 in
set_option maxHeartbeats 4000000 in
theorem refDirOf_any (k d x dep : Int) (s : ByteArray) (A : Option Addr) (n cap : Nat) (xs : List Int) (w : World) (hz : Ints w A n xs) (hm : ∀ y ∈ xs, mayP y) (hn1 : 1 ≤ n) (hn : n ≤ 32) :
    Calls Tryz.prog 6 #[.agg #[.int .i64 k, .int .i64 d, .int .i64 x, .string s], .int .i64 dep, .slice A n cap] w fun e w' =>
      e = .returned (.agg #[.int .i64 k, .int .i64 dep, .int .i64 x, .string (str (bodyOf xs))]) ∧ Below w.heap.size w w' := by
  obtain ⟨b, off, rfl, hbl, hcell⟩ := hz.2.2 (by omega)
  have hxl := hz.1
  have Hcell := Lib.hid hcell
  have Hm := Lib.hid hm
  have Hxl := Lib.hid hxl
  have Hbig := Lib.hid big2_any
  have Hz := Lib.hid refZeros_any
  clear hcell hm hxl hz
  go_enter Tryz.func6, Tryz.ntmps6
  go_wp2_with fail
  go_loopw [7, 8] (fun v i wr => ∃ j : Nat, v = .string (str (encL (xs.take j))) ∧ i = .int .i64 j ∧ j ≤ n ∧ wr.heap[w.heap.size]? = some (.cells #[.int .i64 k, .int .i64 d, .int .i64 x, .string s] 23 (0, 0)) ∧ wr.heap[w.heap.size + 1]? = some (.cells #[.int .i64 0, .int .i64 0, .int .i64 0, .string ⟨#[]⟩] 23 (0, 0)) ∧ Below w.heap.size w wr) (fun _ i _ => n - (intOf i).toNat)
  case atStart =>
    refine ⟨0, rfl, rfl, Nat.zero_le _, hal (heap_alloc_new w _), ?_, below_al (below_al (Below.refl _ w) _) _⟩
    have := heap_alloc_new (w.alloc (.cells #[.int .i64 k, .int .i64 d, .int .i64 x, .string s] 23)) (.cells #[.int .i64 0, .int .i64 0, .int .i64 0, .string ⟨#[]⟩] 23)
    simpa using this
  case round =>
    obtain ⟨j, rfl, rfl, hj, hpg, hres, hbel⟩ := hrel
    by_cases hlt : j < n
    · obtain ⟨X, hX⟩ : ∃ X, X = xs.getD j 0 := ⟨_, rfl⟩
      have hx := (hbel.cell (p := ⟨b, off + j, none⟩) hbl).trans (Hcell.out j hlt)
      rw [← hX] at hx
      have hjx : j < xs.length := by rw [Hxl.out]; exact hlt
      have hXm : mayP X := by
        refine Hm.out X (List.mem_iff_getElem?.2 ⟨j, ?_⟩)
        rw [hX, List.getD_eq_getElem?_getD, List.getElem?_eq_getElem hjx, Option.getD_some]
      have hXr : 2 ≤ X ∧ X < 64 := hXm
      obtain ⟨c, rfl⟩ := Int.eq_ofNat_of_zero_le (show 0 ≤ X by omega)
      have hts : encL (xs.take (j + 1)) = encL (xs.take j) ++ [0, UInt8.ofNat c] := by
        rw [List.take_add_one, List.getElem?_eq_getElem hjx, Option.toList_some, encL_snoc]
        rw [show xs[j] = (c : Int) by rw [hX, List.getD_eq_getElem?_getD, List.getElem?_eq_getElem hjx, Option.getD_some]]
        rfl
      have hbg := Lib.hid (Hbig.out c (by omega))
      have i1 : IntKind.i64.wrap ((j : Int) + 1) = (j : Int) + 1 := IntWalk.i64_in _ (by omega)
      have Hts := Lib.hid hts
      clear hX hXm hts
      have hsz : (str (encL (xs.take j))).size = 2 * j := by rw [str_size, encL_len, List.length_take]; omega
      generalize hs1 : str (encL (xs.take j)) = S1 at *
      go_wp2_with fail
      refine (hbg.out _).mono ?_
      rintro e w2 ⟨rfl, hb2⟩
      have hp2 := blk_keep hpg hb2
      have hr2 := blk_keep hres hb2
      have b2 := below_base hbel hbel.size hb2
      clear hpg hres hbel hb2 hx
      go_wp2_with fail
      case roundEnd =>
        refine ⟨⟨j + 1, ?_, by simp, by omega, hp2, hr2, b2⟩, by simp only [intOf]; omega⟩
        rw [Hts.out, ← str_app, hs1]
    · obtain rfl : j = n := by omega
      have htk : xs.take j = xs := List.take_of_length_le (by have := Hxl.out; omega)
      rw [htk]
      obtain ⟨R, hR⟩ : ∃ R, R = str (encL xs) := ⟨_, rfl⟩
      have hRs : R.size = 2 * j := by rw [hR, str_size, encL_len, Hxl.out]
      rw [← hR]
      obtain ⟨M, hM⟩ : ∃ M, M = 240 - 2 * j := ⟨_, rfl⟩
      have hZs : (str (zs M)).size = M := by rw [str_size, zs, List.length_replicate]
      have hzz := fun w => Hz.out M w (by omega)
      obtain ⟨Z, hZ⟩ : ∃ Z, Z = str (zs M) := ⟨_, rfl⟩
      rw [← hZ] at hzz hZs
      have hM2 : (M : Int) = 240 - 2 * (j : Int) := by omega
      rw [hM2] at hzz
      have Hfin : Hid (R ++ Z = str (bodyOf xs)) := Lib.hid (by rw [hR, hZ, str_app, bodyOf, Hxl.out, hM])
      have c1 := blk_cell hpg
      have c1f := blk_free hpg
      have d1 := blk_cell hres
      have d1f := blk_free hres
      have z1 := lt_of_block hpg
      have y1 := lt_of_block hres
      clear hR hM hZ
      go_wp2_with fail
      refine (hzz _).mono ?_
      rintro e w2 ⟨rfl, hb2⟩
      have hp2 := blk_keep hpg hb2
      have hr2 := blk_keep hres hb2
      have b2 := below_base hbel hbel.size hb2
      have c2 := blk_cell hp2
      have c2f := blk_free hp2
      have d2 := blk_cell hr2
      have d2f := blk_free hr2
      have z2 := lt_of_block hp2
      have y2 := lt_of_block hr2
      clear hpg hres hbel hb2 c1 c1f d1 d1f z1 y1
      go_wp2_with fail
      rw [Hfin.out]
      generalize str (bodyOf xs) = Y at *
      have hr3 : ((w2.setCell ⟨w.heap.size, 1, none⟩ (.int .i64 dep)).setCell ⟨w.heap.size, 3, none⟩ (.string Y)).heap[w.heap.size + 1]? = some (.cells #[.int .i64 0, .int .i64 0, .int .i64 0, .string ⟨#[]⟩] 23 (0, 0)) := by
        rw [heap_setCell_other _ _ _ _ (by simp), heap_setCell_other _ _ _ _ (by simp)]
        exact hr2
      have hb3 : Below w.heap.size w ((w2.setCell ⟨w.heap.size, 1, none⟩ (.int .i64 dep)).setCell ⟨w.heap.size, 3, none⟩ (.string Y)) := below_set (below_set b2 (Nat.le_refl _)) (Nat.le_refl _)
      generalize (w2.setCell ⟨w.heap.size, 1, none⟩ (.int .i64 dep)).setCell ⟨w.heap.size, 3, none⟩ (.string Y) = w3 at *
      have hW := set4_same hr3 (.int .i64 k) (.int .i64 dep) (.int .i64 x) (.string Y)
      have hB := below_set4 hb3 (show w.heap.size ≤ w.heap.size + 1 by omega) (.int .i64 k) (.int .i64 dep) (.int .i64 x) (.string Y)
      change bodyPost _ _ _ _ _ (set4 w3 (w.heap.size + 1) (.int .i64 k) (.int .i64 dep) (.int .i64 x) (.string Y))
      generalize set4 w3 (w.heap.size + 1) (.int .i64 k) (.int .i64 dep) (.int .i64 x) (.string Y) = W5 at *
      have j0 := blk_cell hW 0
      have j1 := blk_cell hW 1
      have j2 := blk_cell hW 2
      have j3 := blk_cell hW 3
      refine bodyPost_ret (v := .agg #[.int .i64 k, .int .i64 dep, .int .i64 x, .string Y]) ?_ rfl ⟨rfl, hB⟩
      simp [results, Tryz.results6, go_sem, j0, j1, j2, j3]
end Go.Proofs.YtlinolgbpnokcaaGreatDoor.Dr
