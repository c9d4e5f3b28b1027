/- Lemmas of the claim, in their order:
- The contract of the laws' New: a store of n pages.
- The contract of blob.Put.
-/
import Derived.Test.YtijhamllnnilbaaGreatDoorU14
import Derived.Test.YtijhamllnnilbaaGreatDoorU09
import Derived.Test.YtijhamllnnilbaaGreatDoorU08
import Derived.OwnWalk
import Derived.Deep.RegionLaw
import Derived.Deep.RegionLawGrows
set_option linter.unusedVariables false
set_option linter.unusedSimpArgs false
namespace Go.Proofs.YtijhamllnnilbaaGreatDoor.Gr
open Go.RowKit Go.Proofs.YtijhamllnnilbaaGreatDoor.Mem Go.Proofs.YtijhamllnnilbaaGreatDoor.Pg Go.Proofs.YtijhamllnnilbaaGreatDoor.Kp Go.Proofs.YtijhamllnnilbaaGreatDoor.Sp
set_option linter.unusedSimpArgs false
set_option linter.unusedVariables false

theorem info_string : (Tryz.prog.info? 9).map (fun i => (i.zero, i.size, i.bytes)) = some (some (.string ⟨#[]⟩), 1, 16) := by kernel_rfl
theorem own_set {w : World} {base k j n : Nat} {e : TypeId} {size : Nat} {v u : Value} {xs : List Value} (h : w.ownsRow base e size v n xs) (hk : k < base) : (w.setCell ⟨k, j, none⟩ u).ownsRow base e size v n xs := by
  refine ⟨h.1, ?_⟩
  rcases h.2 with h2 | ⟨g, cap, cur, h1, h2, h3, h4⟩
  · exact .inl h2
  · exact .inr ⟨g, cap, cur, h1, h2, (heap_setCell_other _ _ _ _ (show g ≠ k by omega)).trans h3, h4⟩
abbrev sto (v : Value) : Obj := .cells #[v, .int .i64 (-1)] 115 (0, 0)
/-- The bytes of a new store's pages. -/
def B0 (n i : Nat) : List UInt8 := if i = 1 then Pag.bytes ⟨2, 0, 0, newL n⟩ else zs 256
theorem B0_len (n i : Nat) : (B0 n i).length = 256 := by
  unfold B0
  split
  · exact Pag.bytes_len (Pag.ok_mk (by omega) (by omega) (by omega) (newL_len n))
  · exact zs_len 256
theorem newPage_ok (n : Nat) : Pag.ok ⟨2, 0, 0, newL n⟩ := Pag.ok_mk (by omega) (by omega) (by omega) (newL_len n)

set_option maxRecDepth 100000 in
set_option maxHeartbeats 4000000 in
theorem snew_any (n : Nat) (w : World) (ht : Tab w) (h8 : 8 ≤ n) (h64 : n ≤ 64) :
    Calls Tryz.prog 47 #[.int .i64 n] w fun e w' => ∃ sb qb c, e = .returned (.pointer (some ⟨sb, 0, none⟩)) ∧ w.heap.size ≤ sb ∧ w.heap.size ≤ qb ∧ Below w.heap.size w w' ∧ Sto w' sb qb n c (-1) (B0 n) := by
  have hz : ∀ w, Calls Tryz.prog 23 #[.int .i64 256] w fun e w' => e = .returned (.string (str (zs 256))) ∧ Below w.heap.size w w' := fun w => refZeros_any 256 w (by omega)
  have hnew := fun w => new_ok n w h8 h64
  have hput := fun W (k : Tab W) => put_yes ⟨2, 0, 0, newL n⟩ W k (newPage_ok n)
  simp only [Pag.v] at hput
  obtain ⟨Z, hZ⟩ : ∃ Z, Z = str (zs 256) := ⟨_, rfl⟩
  obtain ⟨P, hP⟩ : ∃ P, P = str (Pag.bytes ⟨2, 0, 0, newL n⟩) := ⟨_, rfl⟩
  obtain ⟨T, hT⟩ : ∃ T, T = str (newL n) := ⟨_, rfl⟩
  rw [← hZ] at hz
  rw [← hP, ← hT] at hput
  rw [← hT] at hnew
  have HZ := Lib.hid hZ
  have HP := Lib.hid hP
  obtain ⟨i0, hif, hz0, hz1, hz2⟩ := info_parts info_string
  have k3 : (w.alloc (.cells #[.slice none 0 0, .int .i64 (-1)] 115)).heap[w.heap.size]? = some (sto (.slice none 0 0)) := heap_alloc_new w _
  have b3 := below_al (Below.refl _ w) (.cells #[.slice none 0 0, .int .i64 (-1)] 115)
  have o3 : (w.alloc (.cells #[.slice none 0 0, .int .i64 (-1)] 115)).ownsRow (w.heap.size + 1) 9 1 (.slice none 0 0) 0 [] := World.ownsRow_nil _ _ _ _
  have HT0 := Lib.hid ht
  clear hZ hP hT ht
  go_enter Tryz.func47, Tryz.ntmps47
  go_wp2_with fail
  go_loopw [4] (fun i wr => ∃ (j : Nat) (v : Value), i = .int .i64 j ∧ j ≤ n ∧ wr.heap[w.heap.size]? = some (sto v) ∧ wr.ownsRow (w.heap.size + 1) 9 1 v j (List.replicate j (.string Z)) ∧ Below w.heap.size w wr) (fun i _ => n - (intOf i).toNat)
  case atStart => exact ⟨0, _, rfl, Nat.zero_le _, k3, o3, b3⟩
  case round =>
    clear k3 o3 b3
    obtain ⟨j, v, rfl, hj, k3, o3, b3⟩ := hrel
    have c3 := blk_cell k3
    have f3 := blk_free k3
    have z3 := lt_of_block k3
    by_cases hlt : j < n
    · have d1 : decide ((j : Int) < (n : Int)) = true := by simpa using hlt
      have d2 : decide (j < n) = true := by simpa using hlt
      go_wp2_with fail
      go_region_law (first | (go_simp; go_at_call 23; with_reducible refine (hz _).mono ?_; rintro e w2 ⟨rfl, hb2⟩; have k4 := blk_keep (w := wr.drew) k3 hb2; have c4 := blk_cell k4; have z4 := lt_of_block k4; have f4 := blk_free k4; have o4 := own_below o3.drew hb2) | (refine step_append_lies _ (by rfl) _ _ _ (by rfl) (w.heap.size + 1) 9 i0 _ 1 16 Tryz.underlying22 hif hz0 hz1 hz2 rfl (by omega) v j (List.replicate j (.string Z)) (by rfl) (o4.alloc _) ⟨w2.heap.size, 0, none⟩ 1 1 [.string Z] (by rfl) (by rfl) (cells_one _ _ _) (by simp [Value.oneCell']) (by omega) (by unfold maxLen; omega) (by omega) (by simp; omega) _ rfl ?_; intro g1 cap1 w4 own1 hgr1 hat1 hlt1; have k6 := keep_grown o4 hgr1 (Nat.lt_succ_self _) (hal k4); have c6 := blk_cell k6; have f6 := blk_free k6; have z6 := lt_of_block k6))
      all_goals
        have b2 := below_base (a := wr.drew) (below_dr b3) b3.size hb2
        have b6 := below_grown (below_al b2 (.cells #[.string Z] 9)) (by have := b2.size; simp; omega) (row_mono o4 (Nat.le_succ _)) hgr1
        have i1 : IntKind.i64.wrap ((j : Int) + 1) = (j : Int) + 1 := IntWalk.i64_in _ (by omega)
        go_wp2_with fail
        refine ⟨⟨j + 1, _, by go_num, by omega, heap_setCell_same _ _ 0 _ _ _ k6, ?_, below_set b6 (Nat.le_refl _)⟩, ?_⟩
        · rw [show List.replicate (j + 1) (Value.string Z) = List.replicate j (Value.string Z) ++ [Value.string Z] from List.replicate_succ']
          exact own_set own1 (Nat.lt_succ_self _)
        · clear i1
          simp [intOf]
          omega
    · obtain rfl : j = n := by omega
      have d1 : decide ((j : Int) < (j : Int)) = false := by simp
      have d3 : decide ((1 : Int) < (j : Int)) = true := by simp; omega
      have d3' : decide (1 < j) = true := by simp; omega
      obtain ⟨g, cap, cur, rfl, hgB, hblk, hcap, hcl⟩ : ∃ g cap cur, v = .slice (some ⟨g, 0, none⟩) j cap ∧ w.heap.size + 1 ≤ g ∧ wr.heap[g]? = some (.cells cur 9 (0, 0)) ∧ j ≤ cur.size ∧ ∀ i, i < j → cur[i]? = some (.string Z) := by
        rcases o3.2 with ⟨_, h⟩ | ⟨g, cap, cur, h1, h2, h3, h4, _, h5, h6⟩
        · omega
        · refine ⟨g, cap, cur, h1, h2, h3, by omega, fun i hi => ?_⟩
          have h7 : (cur.toList.take (j * 1))[i]? = some (.string Z) := by rw [h6, List.getElem?_replicate, if_pos hi]
          rw [List.getElem?_take_of_lt (by omega)] at h7
          simpa using h7
      have Hcl := Lib.hid hcl
      have zq := lt_of_block hblk
      have tr := HT0.out.below b3
      clear o3 hcl
      go_wp2_with fail
      with_reducible refine (hnew _).mono ?_
      rintro e w2 ⟨rfl, hb2⟩
      have hgz : g < w2.heap.size := Nat.lt_of_lt_of_le zq hb2.size
      have k4 := hal (o := .cells #[.int .i64 2, .int .i64 0, .int .i64 0, .string T] 113) (blk_keep k3 hb2)
      have kq := hal (o := .cells #[.int .i64 2, .int .i64 0, .int .i64 0, .string T] 113) (blk_keep hblk hb2)
      have kp := heap_alloc_new w2 (.cells #[.int .i64 2, .int .i64 0, .int .i64 0, .string T] 113)
      have b4 := below_al (below_base b3 b3.size hb2) (.cells #[.int .i64 2, .int .i64 0, .int .i64 0, .string T] 113)
      have c4 := blk_cell k4
      have z4 := lt_of_block k4
      have cq := blk_cell kq
      have zq4 := lt_of_block kq
      have cp := blk_cell kp
      have zp := lt_of_block kp
      have T4 := Lib.hid (HT0.out.below b4).drew
      clear c3 f3 z3 k3 hblk zq b3 hb2 tr
      go_wp2_with fail
      have hne1 : g ≠ w.heap.size := by omega
      have hne2 : g ≠ w2.heap.size := by omega
      have h1j : (1 : Int) < (j : Int) := by omega
      generalize hw5 : w2.alloc (.cells #[.int .i64 2, .int .i64 0, .int .i64 0, .string T] 113) = w5 at *
      go_region_law (go_simp; go_at_call 48; with_reducible refine (hput _ T4.out).mono ?_; rintro e w6 ⟨rfl, hb6⟩; have k6 := blk_keep (w := w5.drew) k4 hb6; have q6 := blk_keep (w := w5.drew) kq hb6; have c6 := blk_cell k6; have z6 := lt_of_block k6; have x6 := (blk_cell q6 1).trans (Hcl.out 1 (by omega)); have f6 := blk_free q6 1; have y6 := lt_of_block q6)
      all_goals
        have b6 := below_base (a := w5.drew) (below_dr b4) b4.size hb6
        go_wp2_with fail
        go_ret
        refine ⟨w.heap.size, g, cap, rfl, Nat.le_refl _, by omega, below_set b6 (by omega), ⟨?_, ⟨_, heap_setCell_same _ _ 1 _ _ _ q6, fun i hi => ?_⟩, by omega, by omega, fun i hi => by rw [B0_len]; omega⟩⟩
        · exact (heap_setCell_other _ _ _ _ (Ne.symm hne1)).trans k6
        · by_cases h1 : i = 1
          · subst h1
            rw [Array.getElem?_setIfInBounds, if_pos rfl, if_pos (by omega), HP.out]
            rfl
          · rw [Array.getElem?_setIfInBounds, if_neg (by omega), Hcl.out i hi, HZ.out, B0, if_neg h1]
end Go.Proofs.YtijhamllnnilbaaGreatDoor.Gr
namespace Go.Proofs.YtijhamllnnilbaaGreatDoor.Bl
open Go.RowKit Go.Proofs.YtijhamllnnilbaaGreatDoor.Mem Go.Proofs.YtijhamllnnilbaaGreatDoor.Pg

/-- A page's part of a value. -/
def part (l : List UInt8) (i : Nat) : List UInt8 := (l.drop (200 * i)).take 200
def body (l : List UInt8) (i : Nat) : List UInt8 := part l i ++ zs (240 - (part l i).length)
def nextOf (at' : List Int) (i : Nat) : Int := if i + 1 < at'.length then at'.getD (i + 1) 0 else 0
def pgRow (l : List UInt8) (at' : List Int) (i : Nat) : List Value := [.int .i64 5, .int .i64 0, .int .i64 (nextOf at' i), .string (str (body l i))]
def rows (l : List UInt8) (at' : List Int) : Nat → List Value
  | 0 => []
  | n + 1 => rows l at' n ++ pgRow l at' n
theorem rows_length (l : List UInt8) (at' : List Int) (n : Nat) : (rows l at' n).length = n * 4 := by
  induction n with
  | zero => rfl
  | succ n ih => rw [rows, List.length_append, ih]; simp [pgRow]; omega
theorem info_page : (Tryz.prog.info? 113).map (fun i => (i.zero, i.size, i.bytes)) = some (some (.agg #[.int .i64 0, .int .i64 0, .int .i64 0, .string ⟨#[]⟩]), 4, 40) := by kernel_rfl
theorem part_len (l : List UInt8) (j : Nat) : (part l j).length = min (l.length - 200 * j) 200 := by simp [part]; omega
/-- The body as the code makes it. -/
theorem body_code {l : List UInt8} {j c : Nat} {sv Z : ByteArray} (hs : sv = str (l.drop (200 * j))) (hZ : Z = str (zs 240)) (hc : c = min sv.size 200) : sv.extract 0 c ++ Z.extract c 240 = str (body l j) := by
  subst hs hZ
  have hlen := part_len l j
  rw [str_size, List.length_drop] at hc
  have h1 : (l.drop (200 * j)).take c = part l j := by
    rw [part, hc]
    rcases Nat.le_total (l.length - 200 * j) 200 with h | h
    · rw [Nat.min_eq_left h, List.take_of_length_le (by simp), List.take_of_length_le (by simp; omega)]
    · rw [Nat.min_eq_right h]
  have h2 : ((zs 240).drop c).take (240 - c) = zs (240 - (part l j).length) := by
    rw [hlen, ← hc, zs, zs, List.drop_replicate, List.take_replicate, Nat.min_self]
  apply ByteArray.ext
  apply Array.toList_inj.1
  simp only [ByteArray.data_append, ByteArray.data_extract, Array.toList_append, Array.toList_extract, List.extract, body, Nat.sub_zero, List.drop_zero]
  rw [h1, h2]
theorem rest_code {l : List UInt8} {j c : Nat} {sv : ByteArray} (hs : sv = str (l.drop (200 * j))) (hc : c = min sv.size 200) : sv.extract c sv.size = str (l.drop (200 * (j + 1))) := by
  subst hs
  rw [str_size, List.length_drop] at hc
  apply ByteArray.ext
  apply Array.toList_inj.1
  simp only [ByteArray.data_extract, Array.toList_extract, List.extract, str_size, List.length_drop]
  rw [List.take_of_length_le (by rw [List.length_drop, List.length_drop]; omega), List.drop_drop]
  rcases Nat.le_total (l.length - 200 * j) 200 with h | h
  · rw [List.drop_eq_nil_of_le (by omega), List.drop_eq_nil_of_le (by omega)]
  · rw [show 200 * j + c = 200 * (j + 1) by omega]
/-- A place that may be. -/
def OkAt (at' : List Int) (i : Nat) : Prop := 2 ≤ at'.getD i 0 ∧ at'.getD i 0 < 64 ∧ (at'.take i).contains (at'.getD i 0) = false
def PutOk (l : List UInt8) (at' : List Int) : Prop := at'.length ≠ 0 ∧ at'.length = pgN l.length ∧ ∀ i, i < at'.length → OkAt at' i
def PutPost (w : World) (l : List UInt8) (at' : List Int) (e : Ending) (w' : World) : Prop :=
  (PutOk l at' ∧ ∃ v, e = .returned (.tuple #[v, .bool true]) ∧ w'.ownsRow w.heap.size 113 4 v at'.length (rows l at' at'.length) ∧ Below w.heap.size w w') ∨
  (¬ PutOk l at' ∧ e = .returned (.tuple #[.slice none 0 0, .bool false]) ∧ Below w.heap.size w w')

set_option maxRecDepth 100000 in
set_option maxHeartbeats 4000000 in
theorem put_any (l : List UInt8) (A : Option Addr) (n cap : Nat) (at' : List Int) (w : World) (hl : l.length ≤ 1000)
    (hz : Ints w A n at') (hcap : n ≤ cap) : Calls Tryz.prog 74 #[.string (str l), .slice A n cap] w (PutPost w l at') := by
  have hpg := fun w => blobPages_any l.length w (by omega)
  have hss := str_size l
  have hn : at'.length = n := hz.1
  obtain ⟨i0, hi, hz0, hz1, hz2⟩ := info_parts info_page
  by_cases h0 : n = 0
  · have hno : ¬ PutOk l at' := fun h => h.1 (by omega)
    have d0 : ((n : Int) == 0) = true := by simp; omega
    have Hno := Lib.hid hno
    clear hno hpg hz
    generalize str l = s at hss ⊢
    subst h0
    go_enter Tryz.func74, Tryz.ntmps74
    go_wp2
    go_ret2
    exact .inr ⟨Hno.out, rfl, Below.refl _ _⟩
  · have d0 : ((n : Int) == 0) = false := by simp; omega
    by_cases h1 : n = pgN l.length
    · have d1 : ((n : Int) != (pgN l.length : Int)) = false := by simp; omega
      have hn2 : n ≤ 2 := by have := pgN_le l.length; omega
      have H1 := Lib.hid h1
      have H0 := Lib.hid h0
      obtain ⟨P, hP⟩ : ∃ P, P = pgN l.length := ⟨_, rfl⟩
      rw [← hP] at d1 hpg
      have HP := Lib.hid hP
      obtain ⟨b, off, rfl, hbl, hcell⟩ := hz.2.2 (by omega)
      have Hcell := Lib.hid hcell
      have Hn := Lib.hid hn
      clear hP h1 h0 hz hcell hn
      obtain ⟨s, hs⟩ : ∃ s, s = str l := ⟨_, rfl⟩
      rw [← hs] at hss ⊢
      have Hs := Lib.hid hs
      clear hs
      go_enter Tryz.func74, Tryz.ntmps74
      go_wp2_with fail
      refine (hpg _).mono ?_
      rintro e w1 ⟨rfl, rfl⟩
      clear hpg
      go_wp2_with fail
      go_loopw [0, 6, 24] (fun v o i wr => ∃ (j : Nat) (sv : ByteArray), i = .int .i64 j ∧ j ≤ n ∧ v = .string sv ∧ Hid (sv = str (l.drop (200 * j))) ∧ wr.ownsRow w1.heap.size 113 4 o j (rows l at' j) ∧ Below w1.heap.size w1 wr ∧ Hid (∀ i, i < j → OkAt at' i)) (fun _ _ i _ => n - (intOf i).toNat)
      case atStart => exact ⟨0, s, rfl, Nat.zero_le _, rfl, Hs, ⟨rfl, .inl ⟨rfl, rfl⟩⟩, Below.refl _ _, Lib.hid (fun i hi => absurd hi (by omega))⟩
      case round =>
        obtain ⟨j, sv, rfl, hj, rfl, hsv, hown, hbel, hoks⟩ := hrel
        by_cases hlt : j < n
        · have hx := (hbel.cell (p := ⟨b, off + j, none⟩) hbl).trans (Hcell.out j hlt)
          obtain ⟨g, hg⟩ : ∃ g, g = at'.getD j 0 := ⟨_, rfl⟩
          rw [← hg] at hx
          have Hg := Lib.hid hg
          clear hg
          have hcon := fun W (hW : Below w1.heap.size w1 W) => Tryz.slices_Contains_int b off j cap at' g W (by have := Hn.out; omega) (by omega) (fun i hi => (hW.cell (p := ⟨b, off + i, none⟩) hbl).trans (Hcell.out i (by have := Hn.out; omega)))
          by_cases h2 : g < 2
          · have d2 : decide (g < 2) = true := by simpa using h2
            clear hcon
            have hno : ¬ PutOk l at' := fun h => by have := (h.2.2 j (by have := Hn.out; omega)).1; rw [← Hg.out] at this; omega
            have Hno := Lib.hid hno
            clear hno
            go_wp2
            go_ret2
            exact .inr ⟨Hno.out, rfl, hbel⟩
          · have d2 : decide (g < 2) = false := by simpa using h2
            by_cases h64 : 64 ≤ g
            · have d64 : decide (64 ≤ g) = true := by simpa using h64
              clear hcon
              have hno : ¬ PutOk l at' := fun h => by have := (h.2.2 j (by have := Hn.out; omega)).2.1; rw [← Hg.out] at this; omega
              have Hno := Lib.hid hno
              clear hno
              go_wp2
              go_ret2
              exact .inr ⟨Hno.out, rfl, hbel⟩
            · have d64 : decide (64 ≤ g) = false := by simpa using h64
              rcases hct : (at'.take j).contains g with _ | _
              · rw [hct] at hcon
                have hokj : OkAt at' j := ⟨by rw [← Hg.out]; omega, by rw [← Hg.out]; omega, by rw [← Hg.out]; exact hct⟩
                have Hokj := Lib.hid hokj
                clear hokj hct
                have hem := fun w => empty_any 5 0 w
                obtain ⟨Z, hZ⟩ : ∃ Z, Z = str (zs 240) := ⟨_, rfl⟩
                have hZs : Z.size = 240 := by rw [hZ, str_size]; exact List.length_replicate
                rw [← hZ] at hem
                have HZ := Lib.hid hZ
                obtain ⟨c, hc⟩ : ∃ c, c = min sv.size 200 := ⟨_, rfl⟩
                have hmin : min (sv.size : Int) 200 = (c : Int) := by omega
                have hc1 : min c sv.size = c := by omega
                have hc2 : c ≤ sv.size := by omega
                have hc3 : (c : Int) ≤ (sv.size : Int) := by omega
                have hc4 : c ≤ 200 := by omega
                have Hc := Lib.hid hc
                clear hZ hc
                have hjn : (j : Int) ≤ (n : Int) := by omega
                go_wp2_with fail
                refine (hcon _ hbel).mono ?_
                rintro e w2 ⟨rfl, rfl⟩
                clear hcon
                go_wp2_with fail
                refine (hem _).mono ?_
                rintro e w3 ⟨rfl, hb3⟩
                have hbw3 := below_tr hbel hb3
                have hown3 := own_below hown hb3
                clear hem hb3 hown hbel hx
                by_cases hnx : j + 1 < n
                · have dn : decide ((j : Int) + 1 < (n : Int)) = true := by simp; omega
                  have hxn := (hbw3.cell (p := ⟨b, off + (j + 1), none⟩) hbl).trans (Hcell.out (j + 1) hnx)
                  have hbl3 : b < w3.heap.size := Nat.lt_of_lt_of_le hbl hbw3.size
                  generalize hgn : at'.getD (j + 1) 0 = gn at hxn
                  have hnext : nextOf at' j = gn := by unfold nextOf; rw [if_pos (by have := Hn.out; omega), hgn]
                  have Hnext := Lib.hid hnext
                  clear hgn hnext
                  have hbody : sv.extract 0 c ++ Z.extract c 240 = str (body l j) := body_code hsv.out HZ.out Hc.out
                  have hrest : sv.extract c sv.size = str (l.drop (200 * (j + 1))) := rest_code hsv.out Hc.out
                  generalize hT : sv.extract 0 c ++ Z.extract c 240 = T at hbody
                  have HB := Lib.hid hbody
                  have HR := Lib.hid hrest
                  clear hbody hrest
                  go_wp2_with (at_builtin; refine wpList_append_own _ rfl (.tmp 71) (.tmp 73) _ rfl w1.heap.size 113 i0 (.agg #[.int .i64 0, .int .i64 0, .int .i64 0, .string ⟨#[]⟩]) 4 40 Tryz.underlying68 hi hz0 hz1 hz2 rfl (by decide) _ j (rows l at' j) rfl ((hown3.alloc _).alloc _) ⟨w3.heap.size + 1, 0, none⟩ 1 1 [.int .i64 5, .int .i64 0, .int .i64 gn, .string T] rfl rfl (cells_new _ _ (by simp) _ _) (by intro u hu; simp at hu; rcases hu with rfl | rfl | rfl | rfl <;> rfl) (by unfold maxLen; omega) (by omega) (by have := hbw3.size; simp; omega) ?_; intro v' w4 hown4 hgrow _)
                  go_roundw
                  case rel =>
                    refine ⟨j + 1, _, by go_num, by omega, rfl, HR, ?_, ?_, Lib.hid (fun i hi => ?_)⟩
                    · rw [rows, pgRow, ← HB.out, Hnext.out]
                      exact hown4
                    · exact below_grown (below_al (below_al hbw3 _) _) (by have := hbw3.size; simp; omega) hown3 hgrow
                    · rcases Nat.lt_or_eq_of_le (Nat.le_of_lt_succ hi) with h | h
                      · exact hoks.out i h
                      · rw [h]; exact Hokj.out
                  case measure => simp [intOf]; omega
                · have dn : decide ((j : Int) + 1 < (n : Int)) = false := by simp; omega
                  have hnext : nextOf at' j = 0 := by unfold nextOf; rw [if_neg (by have := Hn.out; omega)]
                  have Hnext := Lib.hid hnext
                  clear hnext
                  have hbody : sv.extract 0 c ++ Z.extract c 240 = str (body l j) := body_code hsv.out HZ.out Hc.out
                  have hrest : sv.extract c sv.size = str (l.drop (200 * (j + 1))) := rest_code hsv.out Hc.out
                  generalize hT : sv.extract 0 c ++ Z.extract c 240 = T at hbody
                  have HB := Lib.hid hbody
                  have HR := Lib.hid hrest
                  clear hbody hrest
                  go_wp2_with (at_builtin; refine wpList_append_own _ rfl (.tmp 71) (.tmp 73) _ rfl w1.heap.size 113 i0 (.agg #[.int .i64 0, .int .i64 0, .int .i64 0, .string ⟨#[]⟩]) 4 40 Tryz.underlying68 hi hz0 hz1 hz2 rfl (by decide) _ j (rows l at' j) rfl ((hown3.alloc _).alloc _) ⟨w3.heap.size + 1, 0, none⟩ 1 1 [.int .i64 5, .int .i64 0, .int .i64 0, .string T] rfl rfl (cells_new _ _ (by simp) _ _) (by intro u hu; simp at hu; rcases hu with rfl | rfl | rfl | rfl <;> rfl) (by unfold maxLen; omega) (by omega) (by have := hbw3.size; simp; omega) ?_; intro v' w4 hown4 hgrow _)
                  go_roundw
                  case rel =>
                    refine ⟨j + 1, _, by go_num, by omega, rfl, HR, ?_, ?_, Lib.hid (fun i hi => ?_)⟩
                    · rw [rows, pgRow, ← HB.out, Hnext.out]
                      exact hown4
                    · exact below_grown (below_al (below_al hbw3 _) _) (by have := hbw3.size; simp; omega) hown3 hgrow
                    · rcases Nat.lt_or_eq_of_le (Nat.le_of_lt_succ hi) with h | h
                      · exact hoks.out i h
                      · rw [h]; exact Hokj.out
                  case measure => simp [intOf]; omega
              · rw [hct] at hcon
                have hno : ¬ PutOk l at' := fun h => by have := (h.2.2 j (by have := Hn.out; omega)).2.2; rw [← Hg.out, hct] at this; exact absurd this (by decide)
                have Hno := Lib.hid hno
                have hjn : (j : Int) ≤ (n : Int) := by omega
                clear hno hct
                go_wp2_with fail
                refine (hcon _ hbel).mono ?_
                rintro e w2 ⟨rfl, rfl⟩
                clear hcon
                go_wp2
                go_ret2
                exact .inr ⟨Hno.out, rfl, hbel⟩
        · obtain rfl : j = n := by omega
          have hok : PutOk l at' := ⟨by have := Hn.out; have := H0.out; omega, by have := Hn.out; have := H1.out; omega, fun i hi => hoks.out i (by have := Hn.out; omega)⟩
          have Hok := Lib.hid hok
          clear hok
          go_wp2
          go_ret2
          exact .inl ⟨Hok.out, _, rfl, by rw [Hn.out]; exact hown, hbel⟩
    · have hno : ¬ PutOk l at' := fun h => h1 (by have := h.2.1; omega)
      have d1 : ((n : Int) != (pgN l.length : Int)) = true := by simp; omega
      have Hno := Lib.hid hno
      have Hd := Lib.hid h1
      obtain ⟨P, hP⟩ : ∃ P, P = pgN l.length := ⟨_, rfl⟩
      rw [← hP] at d1 hpg
      clear hno hz hP h1
      generalize str l = s at hss ⊢
      go_enter Tryz.func74, Tryz.ntmps74
      go_wp2_with fail
      refine (hpg _).mono ?_
      rintro e w1 ⟨rfl, rfl⟩
      clear hpg
      go_wp2
      go_ret2
      exact .inr ⟨Hno.out, rfl, Below.refl _ _⟩
end Go.Proofs.YtijhamllnnilbaaGreatDoor.Bl
