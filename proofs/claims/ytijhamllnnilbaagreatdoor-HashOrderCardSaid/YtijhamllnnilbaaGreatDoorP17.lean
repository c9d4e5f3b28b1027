/- Lemmas of the claim, in their order:
- The contract of dir's Halve.
- The contract of the entries' set.
- The contract of dir's Set.
- A new store's pages; what the laws' New gives (for seats without Patches).
- The contract of blob.Get.
- The plain laws of a value in pages (as blob/XBlobBack, without its walk).
- The library's table of blanks, off the row's condition.
-/
import Derived.Test.YtijhamllnnilbaaGreatDoorP11
import Derived.Deep.QuietTactic
import Derived.BigQuiet
import Derived.Test.YtijhamllnnilbaaGreatDoorP16
import Derived.Lib.TrimByte
import Derived.Lib.OthersKept
import Derived.Test.YtijhamllnnilbaaGreatDoorP01
import Derived.Test.YtijhamllnnilbaaGreatDoorChecked
import Derived.ProofKit
import Derived.OpenShut
import Derived.Deep.Slices
import Derived.Deep.Fields
import Derived.Lib.SmallJoins
import Derived.Lib.LaidU8
set_option linter.unusedVariables false
set_option linter.unusedSimpArgs false
namespace Go.Proofs.YtijhamllnnilbaaGreatDoor.Dr
open Go.RowKit Go.Proofs.YtijhamllnnilbaaGreatDoor.Mem Go.Proofs.YtijhamllnnilbaaGreatDoor.Pg

def Even2 (l : List UInt8) (n : Nat) : Prop := 2 ≤ n ∧ (ents l n).take (n / 2) = (ents l n).drop (n / 2)
def HalvePost (w : World) (k d x : Int) (l : List UInt8) (e : Ending) (w' : World) : Prop :=
 (((∀ n, ¬ IsDir k d l n) ∧ e = .returned (.tuple #[.agg #[.int .i64 0, .int .i64 0, .int .i64 0, .string ⟨#[]⟩], .int .i64 2])) ∨
  (∃ n, IsDir k d l n ∧ ¬ Even2 l n ∧ e = .returned (.tuple #[.agg #[.int .i64 0, .int .i64 0, .int .i64 0, .string ⟨#[]⟩], .int .i64 11])) ∨
  (∃ n, IsDir k d l n ∧ Even2 l n ∧ e = .returned (.tuple #[.agg #[.int .i64 k, .int .i64 (d - 1), .int .i64 x, .string (str (bodyOf ((ents l n).take (n / 2))))], .int .i64 0]))) ∧ Below w.heap.size w w'
theorem isDir_two {k d : Int} {l : List UInt8} {n : Nat} (h : IsDir k d l n) (h2 : ¬ n < 2) : n = 2 * (n / 2) ∧ 1 ≤ d := by
 have h0 := h.lo
 have h3 := h.size
 obtain ⟨m, rfl⟩ := Int.eq_ofNat_of_zero_le h0
 rw [Int.toNat_natCast] at h3
 cases m with
 | zero => simp at h3; omega
 | succ m => rw [Nat.pow_succ] at h3; omega

set_option maxRecDepth 100000 in
set_option maxHeartbeats 4000000 in
theorem halve_any (k d x : Int) (l : List UInt8) (w : World) :
 Calls Tryz.prog 226 #[.agg #[.int .i64 k, .int .i64 d, .int .i64 x, .string (str l)]] w (HalvePost w k d x l) := by
 have hof := fun w => of_any k d x l w
 generalize str l = S at *
 go_enter Tryz.func226, Tryz.ntmps226
 go_wp2_with fail
 with_reducible refine (hof _).mono ?_
 clear hof
 rintro e w1 (⟨n, g, cap, hd, rfl, hown, hgl, hgb, hb⟩ | ⟨hno, rfl, hb⟩)
 · have hpb := (blk2_below hb).1
   have hrb := (blk2_below hb).2
   have hbw := below_box (below_box hb)
   have hcap := (own_cap hown).2
   have hcp := blk_cell hpb
   have hlp := lt_of_block hpb
   have hle := hd.le
   have hcr := blk_cell hrb
   have hfr := blk_free hrb
   have hlr := lt_of_block hrb
   have Hd := Lib.hid hd
   by_cases hn2 : n < 2
   · obtain rfl : n = 1 := by omega
     have hno : Hid (¬ Even2 l 1) := fun h => by have := h.1; omega
     clear hd hown
     have hce := blk_cell (heap_alloc_new w1 (.cells #[.slice (some ⟨g, 0, none⟩) 1 cap, .int .i64 0] 248)) 0
     change _ = some (Value.slice (some ⟨g, 0, none⟩) 1 cap) at hce
     go_wp2_with fail
     go_region
     go_wp2
     have hW : (((set4 w1 (w.heap.size + 1) (.int .i64 0) (.int .i64 0) (.int .i64 0) (.string ⟨#[]⟩)).alloc (.cells #[.slice (some ⟨g, 0, none⟩) 1 cap, .int .i64 0] 248)).drew).heap[w.heap.size + 1]? = some (.cells #[.int .i64 0, .int .i64 0, .int .i64 0, .string ⟨#[]⟩] 113 (0, 0)) := hal (set4_same hrb _ _ _ _)
     have hB : Below w.heap.size w (((set4 w1 (w.heap.size + 1) (.int .i64 0) (.int .i64 0) (.int .i64 0) (.string ⟨#[]⟩)).alloc (.cells #[.slice (some ⟨g, 0, none⟩) 1 cap, .int .i64 0] 248)).drew) := below_dr (below_al (below_set4 hbw (show w.heap.size ≤ w.heap.size + 1 by omega) _ _ _ _) _)
     change bodyPost _ _ _ _ _ (((set4 w1 (w.heap.size + 1) (.int .i64 0) (.int .i64 0) (.int .i64 0) (.string ⟨#[]⟩)).alloc (.cells #[.slice (some ⟨g, 0, none⟩) 1 cap, .int .i64 0] 248)).drew)
     generalize ((set4 w1 (w.heap.size + 1) (.int .i64 0) (.int .i64 0) (.int .i64 0) (.string ⟨#[]⟩)).alloc (.cells #[.slice (some ⟨g, 0, none⟩) 1 cap, .int .i64 0] 248)).drew = WF at *
     have j0 := blk_cell hW 0
     have j1 := blk_cell hW 1
     have j2 := blk_cell hW 2
     have j3 := blk_cell hW 3
     clear hW hcr hfr hce
     refine bodyPost_ret (v := .tuple #[.agg #[.int .i64 0, .int .i64 0, .int .i64 0, .string ⟨#[]⟩], .int .i64 11]) ?_ rfl ⟨.inr (.inl ⟨1, Hd.out, hno.out, rfl⟩), hB⟩
     simp [results, Tryz.results226, go_sem, j0, j1, j2, j3]
   · obtain ⟨hh, hd1⟩ := isDir_two hd hn2
     obtain ⟨h, hhe⟩ : ∃ h, h = n / 2 := ⟨_, rfl⟩
     rw [← hhe] at hh
     have hce := blk_cell (heap_alloc_new w1 (.cells #[.slice (some ⟨g, 0, none⟩) n cap, .int .i64 0] 248)) 0
     change _ = some (Value.slice (some ⟨g, 0, none⟩) n cap) at hce
     have a2 : (n : Int) / 2 = (h : Int) := by omega
     have a1 : (n : Int).tdiv 2 = (h : Int) := by rw [Int.tdiv_eq_ediv_of_nonneg (by omega)]; exact a2
     have a3 : ((h : Int) == 0) = false := by simp; omega
     have a4 : h ≤ n := by omega
     have a5 : h ≤ cap := by omega
     have a6 : ¬ cap = h := by omega
     have a7 : ¬ h = 0 := by omega
     have Hhe := Lib.hid hhe
     have Hhh := Lib.hid hh
     clear hhe hh hd
     have hL : (ents l n).length = n := ents_len l n
     have hcl : Hid (∀ j, j < n → (w1.alloc (.cells #[.slice (some ⟨g, 0, none⟩) n cap, .int .i64 0] 248)).cell? ⟨g, j, none⟩ = some (.int .i64 ((ents l n).getD j 0))) := fun j hj => by
      refine own_at (hown.alloc _) j _ ?_
      rw [ints, List.getElem?_map, List.getElem?_eq_getElem (by omega), List.getD_eq_getElem?_getD, List.getElem?_eq_getElem (by omega)]
      rfl
     have heq : Hid (∀ W : World, (∀ j, j < n → W.cell? ⟨g, j, none⟩ = some (.int .i64 ((ents l n).getD j 0))) → Calls Tryz.prog 266 #[.slice (some ⟨g, 0, none⟩) h cap, .slice (some ⟨g, h, none⟩) (n - h) (cap - h)] W fun e w' => e = .returned (.bool ((ents l n).take h == (ents l n).drop h)) ∧ ∃ q, w' = W.drewN q) := fun W hW => by
      have hh := Hhh.out
      have e1 := Tryz.slices_Equal_int g 0 h cap g h (n - h) (cap - h) ((ents l n).take h) ((ents l n).drop h) W (by rw [List.length_take]; omega) (by rw [List.length_drop]; omega) (by omega) (by omega)
       (fun j hj => by rw [Nat.zero_add, hW j (by rw [List.length_take] at hj; omega)]; rw [List.getD_eq_getElem?_getD, List.getD_eq_getElem?_getD, List.getElem?_take, if_pos (by rw [List.length_take] at hj; omega)])
       (fun j hj => by rw [hW (h + j) (by rw [List.length_drop] at hj; omega)]; rw [List.getD_eq_getElem?_getD, List.getD_eq_getElem?_getD, List.getElem?_drop])
      rw [List.take_of_length_le (l := (ents l n).take h) (by rw [List.length_take]; omega), List.take_of_length_le (l := (ents l n).drop h) (by rw [List.length_drop]; omega)] at e1
      exact e1
     generalize hEQ : ((ents l n).take h == (ents l n).drop h) = EQ at heq
     have HEQ := Lib.hid hEQ
     have Hown := Lib.hid hown
     clear hEQ hown hL
     go_wp2_with fail
     go_quiet (first | (go_at_call 266; refine Calls.quiet_of (heq.out _ ?_); exact fun j hj => hcl.out j hj))
     have f1 : ((w1.alloc (.cells #[.slice (some ⟨g, 0, none⟩) n cap, .int .i64 0] 248)).drewN nq).heap[w1.heap.size]? = some (.cells #[.slice (some ⟨g, 0, none⟩) n cap, .int .i64 0] 248 (0, 0)) := heap_alloc_new w1 _
     have f2 : ((w1.alloc (.cells #[.slice (some ⟨g, 0, none⟩) n cap, .int .i64 0] 248)).drewN nq).heap[w.heap.size]? = _ := hal hpb
     have f3 : ((w1.alloc (.cells #[.slice (some ⟨g, 0, none⟩) n cap, .int .i64 0] 248)).drewN nq).heap[w.heap.size + 1]? = _ := hal hrb
     have f4 : Below w.heap.size w ((w1.alloc (.cells #[.slice (some ⟨g, 0, none⟩) n cap, .int .i64 0] 248)).drewN nq) := below_drN (below_al hbw _) nq
     have f5 : g < ((w1.alloc (.cells #[.slice (some ⟨g, 0, none⟩) n cap, .int .i64 0] 248)).drewN nq).heap.size := lt_al hgl _
     have f6 : Hid (∀ j, j < n → ((w1.alloc (.cells #[.slice (some ⟨g, 0, none⟩) n cap, .int .i64 0] 248)).drewN nq).cell? ⟨g, j, none⟩ = some (.int .i64 ((ents l n).getD j 0))) := hcl.out
     have hgb1 : w.heap.size + 1 < g := by simp at hgb; omega
     have hge : g < w1.heap.size := hgl
     have hwl : w.heap.size + 1 < w1.heap.size := lt_of_block hrb
     clear hb hpb hrb hbw hcp hlp hcr hfr hlr hce hcl heq hgb Hown
     generalize (w1.alloc (.cells #[.slice (some ⟨g, 0, none⟩) n cap, .int .i64 0] 248)).drewN nq = W2 at *
     have c0 := blk_cell f1
     have c0f := blk_free f1
     have c1 := blk_cell f2
     have c2 := blk_cell f3
     have c2f := blk_free f3
     have z0 := lt_of_block f1
     have z1 := lt_of_block f2
     have z2 := lt_of_block f3
     cases EQ with
     | false =>
      have hno : Hid (¬ Even2 l n) := fun he => by
       have h1 := HEQ.out
       have h2 := he.2
       rw [← Hhe.out] at h2
       rw [h2] at h1
       simp at h1
      go_wp2
      have hW : (set4 W2 (w.heap.size + 1) (.int .i64 0) (.int .i64 0) (.int .i64 0) (.string ⟨#[]⟩)).heap[w.heap.size + 1]? = some (.cells #[.int .i64 0, .int .i64 0, .int .i64 0, .string ⟨#[]⟩] 113 (0, 0)) := set4_same f3 _ _ _ _
      have hB : Below w.heap.size w (set4 W2 (w.heap.size + 1) (.int .i64 0) (.int .i64 0) (.int .i64 0) (.string ⟨#[]⟩)) := below_set4 f4 (show w.heap.size ≤ w.heap.size + 1 by omega) _ _ _ _
      change bodyPost _ _ _ _ _ (set4 W2 (w.heap.size + 1) (.int .i64 0) (.int .i64 0) (.int .i64 0) (.string ⟨#[]⟩))
      generalize set4 W2 (w.heap.size + 1) (.int .i64 0) (.int .i64 0) (.int .i64 0) (.string ⟨#[]⟩) = WF at *
      have j0 := blk_cell hW 0
      have j1 := blk_cell hW 1
      have j2 := blk_cell hW 2
      have j3 := blk_cell hW 3
      clear hW c2 c2f
      refine bodyPost_ret (v := .tuple #[.agg #[.int .i64 0, .int .i64 0, .int .i64 0, .string ⟨#[]⟩], .int .i64 11]) ?_ rfl ⟨.inr (.inl ⟨n, Hd.out, hno.out, rfl⟩), hB⟩
      simp [results, Tryz.results226, go_sem, j0, j1, j2, j3]
     | true =>
      have heven : Hid (Even2 l n) := ⟨by omega, by rw [← Hhe.out]; simpa using HEQ.out⟩
      have hd5 : d ≤ 5 := Hd.out.hi
      have hL : (ents l n).length = n := ents_len l n
      have hhn : h ≤ n ∧ 1 ≤ h ∧ h ≤ 32 := by have := Hhh.out; omega
      have hpa := fun W hz => page_any k d x 0 (d - 1) S (some ⟨g, 0, none⟩) h cap ((ents l n).take h) W hz (fun y hy => by
       obtain ⟨i, hi, rfl⟩ := List.mem_map.1 (List.mem_of_mem_take hy)
       exact Hd.out.may i (by simpa using hi)) hhn.2.1 hhn.2.2
      have Hpa := Lib.hid hpa
      have hPP : Hid (str (bodyOf ((ents l n).take h)) = str (bodyOf ((ents l n).take (n / 2)))) := by show _ = _; rw [Hhe.out]
      clear hpa hL
      go_wp2_with fail
      have hint : Ints (W2.setCell ⟨w1.heap.size, 0, none⟩ (.slice (some ⟨g, 0, none⟩) h cap)) (some ⟨g, 0, none⟩) h ((ents l n).take h) := by
       have hL : (ents l n).length = n := ents_len l n
       refine ⟨by rw [List.length_take]; omega, by omega, fun _ => ⟨g, 0, rfl, by simpa using f5, fun j hj => ?_⟩⟩
       rw [Nat.zero_add, World.cell?_setCell_other _ _ _ _ (fun e => by injection e with e1; omega), f6.out j (by omega), List.getD_eq_getElem?_getD, List.getD_eq_getElem?_getD, List.getElem?_take, if_pos hj]
      have hr5 := (heap_setCell_other W2 ⟨w1.heap.size, 0, none⟩ (w.heap.size + 1) (.slice (some ⟨g, 0, none⟩) h cap) (show w.heap.size + 1 ≠ w1.heap.size by omega)).trans f3
      have hb5 := below_set (j := 0) (u := .slice (some ⟨g, 0, none⟩) h cap) f4 (show w.heap.size ≤ w1.heap.size by omega)
      refine (Hpa.out _ hint).mono ?_
      rintro e w5 ⟨rfl, hbp⟩
      have hr6 := blk_keep hr5 hbp
      have hb6 := below_base hb5 hb5.size hbp
      rw [hPP.out]
      obtain ⟨Y, hY⟩ : ∃ Y, Y = str (bodyOf ((ents l n).take (n / 2))) := ⟨_, rfl⟩
      rw [← hY]
      have HY := Lib.hid hY
      have c6 := blk_cell hr6
      have c6f := blk_free hr6
      have z6 := lt_of_block hr6
      clear hY hint hr5 hb5 hbp f1 f2 f3 f4 f5 f6 c0 c0f c1 c2 c2f z0 z1 z2 Hpa hPP
      go_wp2
      have hW : (set4 w5 (w.heap.size + 1) (.int .i64 k) (.int .i64 (d - 1)) (.int .i64 x) (.string Y)).heap[w.heap.size + 1]? = _ := set4_same hr6 (.int .i64 k) (.int .i64 (d - 1)) (.int .i64 x) (.string Y)
      have hB := below_set4 hb6 (show w.heap.size ≤ w.heap.size + 1 by omega) (.int .i64 k) (.int .i64 (d - 1)) (.int .i64 x) (.string Y)
      change bodyPost _ _ _ _ _ (set4 w5 (w.heap.size + 1) (.int .i64 k) (.int .i64 (d - 1)) (.int .i64 x) (.string Y))
      generalize set4 w5 (w.heap.size + 1) (.int .i64 k) (.int .i64 (d - 1)) (.int .i64 x) (.string Y) = WF at *
      have j0 := blk_cell hW 0
      have j1 := blk_cell hW 1
      have j2 := blk_cell hW 2
      have j3 := blk_cell hW 3
      clear hW c6 c6f
      refine bodyPost_ret (v := .tuple #[.agg #[.int .i64 k, .int .i64 (d - 1), .int .i64 x, .string Y], .int .i64 0]) ?_ rfl (⟨.inr (.inr ⟨n, Hd.out, heven.out, by rw [HY.out]⟩), hB⟩)
      simp [results, Tryz.results226, go_sem, j0, j1, j2, j3]
 · have Hno := Lib.hid hno
   have hrb := (blk2_below hb).2
   have hbw := below_box (below_box hb)
   have hcr := blk_cell hrb
   have hfr := blk_free hrb
   have hlr := lt_of_block hrb
   clear hno
   go_wp2
   have hW : (((set4 w1 (w.heap.size + 1) (.int .i64 0) (.int .i64 0) (.int .i64 0) (.string ⟨#[]⟩)).alloc (.cells #[.slice none 0 0, .int .i64 0] 248))).heap[w.heap.size + 1]? = some (.cells #[.int .i64 0, .int .i64 0, .int .i64 0, .string ⟨#[]⟩] 113 (0, 0)) := hal (set4_same hrb _ _ _ _)
   have hB : Below w.heap.size w (((set4 w1 (w.heap.size + 1) (.int .i64 0) (.int .i64 0) (.int .i64 0) (.string ⟨#[]⟩)).alloc (.cells #[.slice none 0 0, .int .i64 0] 248))) := below_al (below_set4 hbw (show w.heap.size ≤ w.heap.size + 1 by omega) _ _ _ _) _
   change bodyPost _ _ _ _ _ (((set4 w1 (w.heap.size + 1) (.int .i64 0) (.int .i64 0) (.int .i64 0) (.string ⟨#[]⟩)).alloc (.cells #[.slice none 0 0, .int .i64 0] 248)))
   generalize ((set4 w1 (w.heap.size + 1) (.int .i64 0) (.int .i64 0) (.int .i64 0) (.string ⟨#[]⟩)).alloc (.cells #[.slice none 0 0, .int .i64 0] 248)) = WF at *
   have j0 := blk_cell hW 0
   have j1 := blk_cell hW 1
   have j2 := blk_cell hW 2
   have j3 := blk_cell hW 3
   clear hW hcr hfr
   refine bodyPost_ret (v := .tuple #[.agg #[.int .i64 0, .int .i64 0, .int .i64 0, .string ⟨#[]⟩], .int .i64 2]) ?_ rfl ⟨.inl ⟨Hno.out, rfl⟩, hB⟩
   simp [results, Tryz.results226, go_sem, j0, j1, j2, j3]
end Go.Proofs.YtijhamllnnilbaaGreatDoor.Dr
namespace Go.Proofs.YtijhamllnnilbaaGreatDoor.Dr
open Go.RowKit Go.Proofs.YtijhamllnnilbaaGreatDoor.Mem Go.Proofs.YtijhamllnnilbaaGreatDoor.Pg

set_option maxRecDepth 100000 in
set_option maxHeartbeats 4000000 in
theorem setOne_any (eb g n cap i : Nat) (v u : Int) (w : World) (h0 : w.cell? ⟨eb, 0, none⟩ = some (.slice (some ⟨g, 0, none⟩) n cap)) (h1 : w.cell? ⟨eb, 1, none⟩ = some (.int .i64 v)) (hi : i < n) (hn : n ≤ 1000)
 (hc : w.cell? ⟨g, i, none⟩ = some (.int .i64 u)) (hf : w.frozen? ⟨g, i, none⟩ = false) (hne : g ≠ eb) :
 Calls Tryz.prog 199 #[.pointer (some ⟨eb, 0, none⟩), .int .i64 i] w fun e w' => e = .returned (.tuple #[]) ∧ w' = (w.setCell ⟨g, i, none⟩ (.int .i64 v)).drew := by
 have i1 : (i : Int) < (n : Int) := by omega
 go_enter Tryz.func199, Tryz.ntmps199
 go_wp2_with fail
 refine wp_region_held_drew (S := fun w' => w'.cell? ⟨eb, 0, none⟩ = some (.slice (some ⟨g, 0, none⟩) n cap) ∧ w'.cell? ⟨eb, 1, none⟩ = some (.int .i64 v)) (by kernel_rfl) (⟨h0, h1⟩) (fun hHeld => ?_)
 refine wpAnyH_take (i := 0) (v := ?_) rfl (by kernel_rfl) (by kernel_rfl) (by kernel_rfl) (fun _ _ _ h => h) (Or.inl ⟨by rfl, ?_⟩) hHeld ?_
 rotate_left
 · intro wq hSw
   try dsimp only at hSw
   go_simp
   try rw [if_neg (by omega)]
   try rw [if_pos (by omega)]
   try with_reducible rfl
 try simp only [Act.put, List.setIfInBounds_toArray, List.set_cons_zero, List.set_cons_succ]
 refine wpAnyH_take (i := 1) (v := ?_) rfl (by kernel_rfl) (by kernel_rfl) (by kernel_rfl) (fun _ _ _ h => h) (Or.inl ⟨by rfl, ?_⟩) hHeld ?_
 rotate_left
 · intro wq hSw
   try dsimp only at hSw
   go_simp
   try rw [if_neg (by omega)]
   try rw [if_pos (by omega)]
   try with_reducible rfl
 try simp only [Act.put, List.setIfInBounds_toArray, List.set_cons_zero, List.set_cons_succ]
 refine wpAnyH_take (i := 2) (v := ?_) rfl (by kernel_rfl) (by kernel_rfl) (by kernel_rfl) (fun _ _ _ h => h) (Or.inl ⟨by rfl, ?_⟩) hHeld ?_
 rotate_left
 · intro wq hSw
   try dsimp only at hSw
   go_simp
   try rw [if_neg (by omega)]
   try rw [if_pos (by omega)]
   try with_reducible rfl
 try simp only [Act.put, List.setIfInBounds_toArray, List.set_cons_zero, List.set_cons_succ]
 refine wpAnyH_take (i := 3) (v := ?_) rfl (by kernel_rfl) (by kernel_rfl) (by kernel_rfl) (fun _ _ _ h => h) (Or.inl ⟨by rfl, ?_⟩) hHeld ?_
 rotate_left
 · intro wq hSw
   try dsimp only at hSw
   go_simp
   try rw [if_neg (by omega)]
   try rw [if_pos (by omega)]
   try with_reducible rfl
 try simp only [Act.put, List.setIfInBounds_toArray, List.set_cons_zero, List.set_cons_succ]
 refine wpAnyH_take (i := 4) (v := ?_) rfl (by kernel_rfl) (by kernel_rfl) (by kernel_rfl) (fun _ _ _ h => h) (Or.inl ⟨by rfl, ?_⟩) hHeld ?_
 rotate_left
 · intro wq hSw
   try dsimp only at hSw
   go_simp
   try rw [if_neg (by omega)]
   try rw [if_pos (by omega)]
   try with_reducible rfl
 try simp only [Act.put, List.setIfInBounds_toArray, List.set_cons_zero, List.set_cons_succ]
 refine wpAnyH_take (i := 5) (v := ?_) rfl (by kernel_rfl) (by kernel_rfl) (by kernel_rfl) (fun _ _ _ h => h) (Or.inl ⟨by rfl, ?_⟩) hHeld ?_
 rotate_left
 · intro wq hSw
   try dsimp only at hSw
   go_simp
   try rw [if_neg (by omega)]
   try rw [if_pos (by omega)]
   try with_reducible rfl
 try simp only [Act.put, List.setIfInBounds_toArray, List.set_cons_zero, List.set_cons_succ]
 refine wpAnyH_take (i := 6) (v := ?_) rfl (by kernel_rfl) (by kernel_rfl) (by kernel_rfl) (fun _ _ _ h => h) (Or.inl ⟨by rfl, ?_⟩) hHeld ?_
 rotate_left
 · intro wq hSw
   try dsimp only at hSw
   go_simp
   try rw [if_neg (by omega)]
   try rw [if_pos (by omega)]
   try with_reducible rfl
 try simp only [Act.put, List.setIfInBounds_toArray, List.set_cons_zero, List.set_cons_succ]
 refine wpAnyH_take (i := 7) (v := ?_) rfl (by kernel_rfl) (by kernel_rfl) (by kernel_rfl) (fun _ _ _ h => h) (Or.inl ⟨by rfl, ?_⟩) hHeld ?_
 rotate_left
 · intro wq hSw
   try dsimp only at hSw
   go_simp
   try rw [if_neg (by omega)]
   try rw [if_pos (by omega)]
   try with_reducible rfl
 try simp only [Act.put, List.setIfInBounds_toArray, List.set_cons_zero, List.set_cons_succ]
 refine wpAnyH_take (i := 8) (v := ?_) rfl (by kernel_rfl) (by kernel_rfl) (by kernel_rfl) (fun _ _ _ h => h) (Or.inl ⟨by rfl, ?_⟩) hHeld ?_
 rotate_left
 · intro wq hSw
   try dsimp only at hSw
   go_simp
   try rw [if_neg (by omega)]
   try rw [if_pos (by omega)]
   try with_reducible rfl
 try simp only [Act.put, List.setIfInBounds_toArray, List.set_cons_zero, List.set_cons_succ]
 refine wpAnyH_take (i := 9) (v := ?_) rfl (by kernel_rfl) (by kernel_rfl) (by kernel_rfl) (fun _ _ _ h => h) (Or.inl ⟨by rfl, ?_⟩) hHeld ?_
 rotate_left
 · intro wq hSw
   try dsimp only at hSw
   go_simp
   try rw [if_neg (by omega)]
   try rw [if_pos (by omega)]
   try with_reducible rfl
 try simp only [Act.put, List.setIfInBounds_toArray, List.set_cons_zero, List.set_cons_succ]
 refine wpAnyH_ready (rs := [10]) (by kernel_rfl) (by simp) ?_
 refine AllReadyH.cons rfl (fun K hK => ?_) AllReadyH.nil
 go_simp
 refine hK.out _ _ (⟨(World.cell?_setCell_other _ _ _ _ (fun e => by injection e with e1; omega)).trans hHeld.1, (World.cell?_setCell_other _ _ _ _ (fun e => by injection e with e1; omega)).trans hHeld.2⟩) (fun hHeld2 => ?_)
 clear hK K
 try clear hHeld
 have hHeld := hHeld2
 try clear hHeld2
 refine wpAnyH_done (by kernel_rfl) ?_ _
 go_end0
 exact ⟨rfl, rfl⟩
end Go.Proofs.YtijhamllnnilbaaGreatDoor.Dr
namespace Go.Proofs.YtijhamllnnilbaaGreatDoor.Dr
open Go.RowKit Go.Proofs.YtijhamllnnilbaaGreatDoor.Mem Go.Proofs.YtijhamllnnilbaaGreatDoor.Pg

def SetOk (d bits dep y : Int) : Prop := 0 ≤ dep ∧ dep ≤ d ∧ 0 ≤ bits ∧ bits < 2 ^ dep.toNat ∧ mayP y
def setTo (xs : List Int) (q : Nat) (bits y : Int) (m : Nat) : List Int := (List.range xs.length).map fun i => if i < m ∧ ((i % q : Nat) : Int) = bits then y else xs.getD i 0
theorem setTo_len (xs : List Int) (q : Nat) (bits y : Int) (m : Nat) : (setTo xs q bits y m).length = xs.length := by simp [setTo]
theorem setTo_zero (xs : List Int) (q : Nat) (bits y : Int) : setTo xs q bits y 0 = xs := by
 refine List.ext_getElem (by simp [setTo]) fun i h1 h2 => ?_
 simp [setTo, List.getD_eq_getElem?_getD, List.getElem?_eq_getElem h2]
theorem setTo_get (xs : List Int) (q : Nat) (bits y : Int) (m i : Nat) (h : i < xs.length) : (setTo xs q bits y m).getD i 0 = if i < m ∧ ((i % q : Nat) : Int) = bits then y else xs.getD i 0 := by
 rw [List.getD_eq_getElem?_getD, setTo, List.getElem?_map, List.getElem?_range h]
 rfl
theorem setTo_yes (xs : List Int) (q : Nat) (bits y : Int) (m : Nat) (hb : ((m % q : Nat) : Int) = bits) : setTo xs q bits y (m + 1) = (setTo xs q bits y m).set m y := by
 refine List.ext_getElem (by simp [setTo]) fun i h1 h2 => ?_
 rw [List.getElem_set]
 simp only [setTo, List.getElem_map, List.getElem_range]
 by_cases h : m = i
 · subst h
   simp [hb]
 · rw [if_neg h]
   by_cases hi : i < m
   · simp [hi, show i < m + 1 by omega]
   · simp [hi, show ¬ i < m + 1 by omega]
theorem setTo_no (xs : List Int) (q : Nat) (bits y : Int) (m : Nat) (hb : ¬ ((m % q : Nat) : Int) = bits) : setTo xs q bits y (m + 1) = setTo xs q bits y m := by
 refine List.ext_getElem (by simp [setTo]) fun i h1 h2 => ?_
 simp only [setTo, List.getElem_map, List.getElem_range]
 by_cases h : i = m
 · subst h
   rw [if_neg (fun h => hb h.2), if_neg (fun h => hb h.2)]
 · by_cases hi : i < m
   · simp [hi, show i < m + 1 by omega]
   · simp [hi, show ¬ i < m + 1 by omega]
theorem setTo_may {xs : List Int} {q : Nat} {bits y : Int} {m : Nat} (hx : ∀ z ∈ xs, mayP z) (hy : mayP y) : ∀ z ∈ setTo xs q bits y m, mayP z := by
 intro z hz
 obtain ⟨i, hi, rfl⟩ := List.mem_map.1 hz
 have hi : i < xs.length := by simpa using hi
 split
 · exact hy
 · exact hx _ (List.mem_iff_getElem?.2 ⟨i, by rw [List.getD_eq_getElem?_getD, List.getElem?_eq_getElem hi, Option.getD_some]⟩)
theorem and_code (i m : Nat) (hi : i ≤ 1000) (hm : m ≤ 5) : bits .and .i64 (i : Int) (((2 ^ m : Nat) : Int) - 1) = ((i % 2 ^ m : Nat) : Int) := by
 have h32 := (pow_small m hm).2
 have e : ((2 ^ m : Nat) : Int) - 1 = ((2 ^ m - 1 : Nat) : Int) := by omega
 rw [e]
 have h1 : (BitVec.ofInt 64 (i : Int)).toNat = i := by
  rw [BitVec.ofInt_natCast, BitVec.toNat_ofNat]; exact Nat.mod_eq_of_lt (by omega)
 have h2 : (BitVec.ofInt 64 ((2 ^ m - 1 : Nat) : Int)).toNat = 2 ^ m - 1 := by
  rw [BitVec.ofInt_natCast, BitVec.toNat_ofNat]; exact Nat.mod_eq_of_lt (by omega)
 have h3 : i % 2 ^ m ≤ i := Nat.mod_le _ _
 show IntKind.i64.wrap ((BitVec.ofInt 64 (i : Int) &&& BitVec.ofInt 64 ((2 ^ m - 1 : Nat) : Int)).toNat : Int) = _
 rw [BitVec.toNat_and, h1, h2, Nat.and_two_pow_sub_one_eq_mod, IntWalk.i64_in _ (by omega)]
theorem and_q (q m : Nat) (hq : q = 2 ^ m) (hm : m ≤ 5) (i : Nat) (hi : i ≤ 1000) : bits .and .i64 (i : Int) ((q : Int) - 1) = ((i % q : Nat) : Int) := by
 subst hq
 exact and_code i m hi hm
def SetPost (w : World) (k d x : Int) (l : List UInt8) (bits dep y : Int) (e : Ending) (w' : World) : Prop :=
 (((∀ n, ¬ IsDir k d l n) ∧ e = .returned (.tuple #[.agg #[.int .i64 0, .int .i64 0, .int .i64 0, .string ⟨#[]⟩], .int .i64 2])) ∨
  (∃ n, IsDir k d l n ∧ ¬ SetOk d bits dep y ∧ e = .returned (.tuple #[.agg #[.int .i64 0, .int .i64 0, .int .i64 0, .string ⟨#[]⟩], .int .i64 1])) ∨
  (∃ n, IsDir k d l n ∧ SetOk d bits dep y ∧ e = .returned (.tuple #[.agg #[.int .i64 k, .int .i64 d, .int .i64 x, .string (str (bodyOf (setTo (ents l n) (2 ^ dep.toNat) bits y n)))], .int .i64 0]))) ∧ Below w.heap.size w w'

set_option maxRecDepth 100000 in
set_option maxHeartbeats 4000000 in
theorem set_any (k d x : Int) (l : List UInt8) (bits dep y : Int) (w : World) :
 Calls Tryz.prog 145 #[.agg #[.int .i64 k, .int .i64 d, .int .i64 x, .string (str l)], .int .i64 bits, .int .i64 dep, .int .i64 y] w (SetPost w k d x l bits dep y) := by
 have hof := fun w => of_any k d x l w
 have hma := fun w => may_any y w
 generalize str l = S at *
 go_enter Tryz.func145, Tryz.ntmps145
 go_wp2_with fail
 with_reducible refine (hof _).mono ?_
 clear hof
 rintro e w1 (⟨n, g, cap, hd, rfl, hown, hgl, hgb, hb⟩ | ⟨hno, rfl, hb⟩)
 · have Hd := Lib.hid hd
   have hpb := (blk2_below hb).1
   have hrb := (blk2_below hb).2
   have hbw := below_box (below_box hb)
   have hcp := blk_cell hpb
   have hlp := lt_of_block hpb
   have hcr := blk_cell hrb
   have hfr := blk_free hrb
   have hlr := lt_of_block hrb
   by_cases hdl : 0 ≤ dep
   · obtain ⟨m, rfl⟩ := Int.eq_ofNat_of_zero_le hdl
     by_cases hdd : (m : Int) ≤ d
     · have hm5 : m ≤ 5 := by have := hd.hi; omega
       obtain ⟨pe, pl, pu⟩ := pow_small m hm5
       obtain ⟨q, hq⟩ : ∃ q, q = 2 ^ m := ⟨_, rfl⟩
       have hqw : wrap64 ((2 : Int) ^ m) = (q : Int) := by rw [Int.toNat_natCast] at pe; rw [pe, ← hq]; exact (wrap_small _ (by omega)).1
       rw [← hq] at pl pu
       have Hand := Lib.hid (and_q q m hq hm5)
       have Hq := Lib.hid hq
       clear hq pe
       by_cases hb0 : 0 ≤ bits
       · by_cases hbq : bits < (q : Int)
         · by_cases hy : mayP y
           · have hmb : mayB y = true := decide_eq_true hy
             rw [hmb] at hma
             have hok : Hid (SetOk d bits m y) := ⟨by omega, hdd, hb0, by rw [(pow_small m hm5).1, ← Hq.out]; exact hbq, hy⟩
             have Hown := Lib.hid hown
             clear hd hown
             go_wp2_with fail
             with_reducible refine (hma _).mono ?_
             rintro e w2 ⟨rfl, hw2⟩
             subst hw2
             clear hma
             go_wp2_with fail
             have hnl := Hd.out.le
             have HLn : Hid ((ents l n).length = n) := ents_len l n
             have hgE : g ≠ w1.heap.size := by omega
             have hgb2 : w.heap.size + 2 ≤ g := by simp at hgb; omega
             go_loopw [54] (fun i wr => ∃ j : Nat, i = .int .i64 j ∧ j ≤ n ∧ wr.heap[w.heap.size]? = some (.cells #[.int .i64 k, .int .i64 d, .int .i64 x, .string S] 113 (0, 0)) ∧ wr.heap[w.heap.size + 1]? = some (.cells #[.int .i64 0, .int .i64 0, .int .i64 0, .string ⟨#[]⟩] 113 (0, 0)) ∧ wr.heap[w1.heap.size]? = some (.cells #[.slice (some ⟨g, 0, none⟩) n cap, .int .i64 y] 248 (0, 0)) ∧ wr.ownsRow (w.heap.size + 2) 3 1 (.slice (some ⟨g, 0, none⟩) n cap) n (ints (setTo (ents l n) q bits y j)) ∧ Below w.heap.size w wr) (fun i _ => n - (intOf i).toNat)
             case atStart =>
              refine ⟨0, rfl, Nat.zero_le _, hal hpb, hal hrb, heap_alloc_new w1 _, ?_, below_al hbw _⟩
              rw [setTo_zero]
              exact own_weaken (Hown.out.alloc _) (by simp)
             case round =>
              obtain ⟨j, rfl, hj, f1, f2, f3, fown, fbel⟩ := hrel
              clear hcp hlp hcr hfr hlr hpb hrb hb
              have c1 := blk_cell f1
              have c2 := blk_cell f2
              have c2f := blk_free f2
              have c3 := blk_cell f3
              have c3f := blk_free f3
              have z1 := lt_of_block f1
              have z2 := lt_of_block f2
              have z3 := lt_of_block f3
              by_cases hlt : j < n
              · obtain ⟨r, hr⟩ : ∃ r, r = j % q := ⟨_, rfl⟩
                obtain ⟨qm, hqm⟩ : ∃ qm : Int, qm = (q : Int) - 1 := ⟨_, rfl⟩
                have i1 : IntKind.i64.wrap ((q : Int) - 1) = qm := by rw [IntWalk.i64_in _ (by omega)]; exact hqm.symm
                have i2 := Hand.out j (by omega)
                rw [← hqm, ← hr] at i2
                have Hr := Lib.hid hr
                have Hqm := Lib.hid hqm
                have Hf := Lib.hid fown
                clear hr hqm fown
                by_cases hbr : (r : Int) = bits
                · go_wp2_with fail
                  have hxy : (ints (setTo (ents l n) q bits y j)).set j (.int .i64 y) = ints (setTo (ents l n) q bits y (j + 1)) := by
                   rw [setTo_yes _ _ _ _ _ (by rw [← Hr.out]; exact hbr), ints, ints, List.map_set]
                  have hget : wr.cell? ⟨g, j, none⟩ = some (.int .i64 ((setTo (ents l n) q bits y j).getD j 0)) := by
                   have hL : j < (setTo (ents l n) q bits y j).length := by rw [setTo_len, HLn.out]; exact hlt
                   refine own_at Hf.out j _ ?_
                   rw [ints, List.getElem?_map, List.getElem?_eq_getElem hL, List.getD_eq_getElem?_getD, List.getElem?_eq_getElem hL]
                   rfl
                  refine (setOne_any w1.heap.size g n cap j y _ wr (c3 0) (c3 1) hlt (by omega) hget (own_free Hf.out j) hgE).mono ?_
                  rintro e w4 ⟨rfl, rfl⟩
                  have hst := Hf.out.stored j (.int .i64 y)
                  rw [hxy] at hst
                  go_wp2_with fail
                  case roundEnd =>
                   refine ⟨⟨j + 1, by simp, by omega, ?_, ?_, ?_, own_below hst.1 (below_dr (Below.refl _ _)), below_dr (below_set fbel (by omega))⟩, by simp only [intOf]; omega⟩
                   · exact (heap_setCell_other wr ⟨g, j, none⟩ _ _ (by show w.heap.size ≠ g; omega)).trans f1
                   · exact (heap_setCell_other wr ⟨g, j, none⟩ _ _ (by show w.heap.size + 1 ≠ g; omega)).trans f2
                   · exact (heap_setCell_other wr ⟨g, j, none⟩ _ _ (by show w1.heap.size ≠ g; omega)).trans f3
                · go_wp2_with fail
                  case roundEnd =>
                   refine ⟨⟨j + 1, by simp, by omega, f1, f2, f3, ?_, fbel⟩, by simp only [intOf]; omega⟩
                   rw [setTo_no _ _ _ _ _ (by rw [← Hr.out]; exact hbr)]
                   exact Hf.out
              · obtain rfl : j = n := by omega
                have hmx : ∀ z ∈ setTo (ents l j) q bits y j, mayP z := setTo_may (fun z hz => by
                 obtain ⟨i, hi, rfl⟩ := List.mem_map.1 hz
                 exact Hd.out.may i (by simpa using hi)) hy
                have hint : Ints wr (some ⟨g, 0, none⟩) j (setTo (ents l j) q bits y j) := by
                 obtain ⟨A, c, hv, hI⟩ := ints_of_own fown
                 simp only [Value.slice.injEq] at hv
                 obtain ⟨rfl, -, rfl⟩ := hv
                 exact hI
                have hPP : Hid (str (bodyOf (setTo (ents l j) q bits y j)) = str (bodyOf (setTo (ents l j) (2 ^ (m : Int).toNat) bits y j))) := by
                 show _ = _
                 rw [Int.toNat_natCast, ← Hq.out]
                have hpa := page_any k d x y d S (some ⟨g, 0, none⟩) j cap (setTo (ents l j) q bits y j) wr hint hmx hnl.1 hnl.2
                rw [hPP.out] at hpa
                obtain ⟨Y, hY⟩ : ∃ Y, Y = str (bodyOf (setTo (ents l j) (2 ^ (m : Int).toNat) bits y j)) := ⟨_, rfl⟩
                rw [← hY] at hpa
                have HY := Lib.hid hY
                have Hpa := Lib.hid hpa
                clear hY hpa hint hmx hPP
                go_wp2_with fail
                refine Hpa.out.mono ?_
                rintro e w5 ⟨rfl, hbp⟩
                have hr6 := blk_keep f2 hbp
                have hb6 := below_base fbel fbel.size hbp
                have c6 := blk_cell hr6
                have c6f := blk_free hr6
                have z6 := lt_of_block hr6
                clear f1 f2 f3 c1 c2 c2f c3 c3f z1 z2 z3 Hpa hbp fown
                go_wp2
                have hW : (set4 w5 (w.heap.size + 1) (.int .i64 k) (.int .i64 d) (.int .i64 x) (.string Y)).heap[w.heap.size + 1]? = _ := set4_same hr6 (.int .i64 k) (.int .i64 d) (.int .i64 x) (.string Y)
                have hB := below_set4 hb6 (show w.heap.size ≤ w.heap.size + 1 by omega) (.int .i64 k) (.int .i64 d) (.int .i64 x) (.string Y)
                change bodyPost _ _ _ _ _ (set4 w5 (w.heap.size + 1) (.int .i64 k) (.int .i64 d) (.int .i64 x) (.string Y))
                generalize set4 w5 (w.heap.size + 1) (.int .i64 k) (.int .i64 d) (.int .i64 x) (.string Y) = WF at *
                have j0 := blk_cell hW 0
                have j1 := blk_cell hW 1
                have j2 := blk_cell hW 2
                have j3 := blk_cell hW 3
                clear hW c6 c6f
                refine bodyPost_ret (v := .tuple #[.agg #[.int .i64 k, .int .i64 d, .int .i64 x, .string Y], .int .i64 0]) ?_ rfl (⟨.inr (.inr ⟨j, Hd.out, hok.out, by rw [HY.out]⟩), hB⟩)
                simp [results, Tryz.results145, go_sem, j0, j1, j2, j3]
           · have hmb : mayB y = false := decide_eq_false hy
             rw [hmb] at hma
             have hno : Hid (¬ SetOk d bits m y) := fun h => hy h.2.2.2.2
             clear hd hown
             go_wp2_with fail
             with_reducible refine (hma _).mono ?_
             rintro e w2 ⟨rfl, hw2⟩
             subst hw2
             clear hma
             go_wp2
             have hW : (((set4 w1 (w.heap.size + 1) (.int .i64 0) (.int .i64 0) (.int .i64 0) (.string ⟨#[]⟩)).alloc (.cells #[.slice (some ⟨g, 0, none⟩) n cap, .int .i64 0] 248))).heap[w.heap.size + 1]? = some (.cells #[.int .i64 0, .int .i64 0, .int .i64 0, .string ⟨#[]⟩] 113 (0, 0)) := hal (set4_same hrb _ _ _ _)
             have hB : Below w.heap.size w (((set4 w1 (w.heap.size + 1) (.int .i64 0) (.int .i64 0) (.int .i64 0) (.string ⟨#[]⟩)).alloc (.cells #[.slice (some ⟨g, 0, none⟩) n cap, .int .i64 0] 248))) := below_al (below_set4 hbw (show w.heap.size ≤ w.heap.size + 1 by omega) _ _ _ _) _
             change bodyPost _ _ _ _ _ (((set4 w1 (w.heap.size + 1) (.int .i64 0) (.int .i64 0) (.int .i64 0) (.string ⟨#[]⟩)).alloc (.cells #[.slice (some ⟨g, 0, none⟩) n cap, .int .i64 0] 248)))
             generalize ((set4 w1 (w.heap.size + 1) (.int .i64 0) (.int .i64 0) (.int .i64 0) (.string ⟨#[]⟩)).alloc (.cells #[.slice (some ⟨g, 0, none⟩) n cap, .int .i64 0] 248)) = WF at *
             have j0 := blk_cell hW 0
             have j1 := blk_cell hW 1
             have j2 := blk_cell hW 2
             have j3 := blk_cell hW 3
             clear hW hcr hfr
             refine bodyPost_ret (v := .tuple #[.agg #[.int .i64 0, .int .i64 0, .int .i64 0, .string ⟨#[]⟩], .int .i64 1]) ?_ rfl ⟨.inr (.inl ⟨n, Hd.out, hno.out, rfl⟩), hB⟩
             simp [results, Tryz.results145, go_sem, j0, j1, j2, j3]
         · have hno : Hid (¬ SetOk d bits m y) := fun h => hbq (by have := h.2.2.2.1; rw [(pow_small m hm5).1, ← Hq.out] at this; exact this)
           clear hma hd hown
           go_wp2
           have hW : (((set4 w1 (w.heap.size + 1) (.int .i64 0) (.int .i64 0) (.int .i64 0) (.string ⟨#[]⟩)).alloc (.cells #[.slice (some ⟨g, 0, none⟩) n cap, .int .i64 0] 248))).heap[w.heap.size + 1]? = some (.cells #[.int .i64 0, .int .i64 0, .int .i64 0, .string ⟨#[]⟩] 113 (0, 0)) := hal (set4_same hrb _ _ _ _)
           have hB : Below w.heap.size w (((set4 w1 (w.heap.size + 1) (.int .i64 0) (.int .i64 0) (.int .i64 0) (.string ⟨#[]⟩)).alloc (.cells #[.slice (some ⟨g, 0, none⟩) n cap, .int .i64 0] 248))) := below_al (below_set4 hbw (show w.heap.size ≤ w.heap.size + 1 by omega) _ _ _ _) _
           change bodyPost _ _ _ _ _ (((set4 w1 (w.heap.size + 1) (.int .i64 0) (.int .i64 0) (.int .i64 0) (.string ⟨#[]⟩)).alloc (.cells #[.slice (some ⟨g, 0, none⟩) n cap, .int .i64 0] 248)))
           generalize ((set4 w1 (w.heap.size + 1) (.int .i64 0) (.int .i64 0) (.int .i64 0) (.string ⟨#[]⟩)).alloc (.cells #[.slice (some ⟨g, 0, none⟩) n cap, .int .i64 0] 248)) = WF at *
           have j0 := blk_cell hW 0
           have j1 := blk_cell hW 1
           have j2 := blk_cell hW 2
           have j3 := blk_cell hW 3
           clear hW hcr hfr
           refine bodyPost_ret (v := .tuple #[.agg #[.int .i64 0, .int .i64 0, .int .i64 0, .string ⟨#[]⟩], .int .i64 1]) ?_ rfl ⟨.inr (.inl ⟨n, Hd.out, hno.out, rfl⟩), hB⟩
           simp [results, Tryz.results145, go_sem, j0, j1, j2, j3]
       · have hno : Hid (¬ SetOk d bits m y) := fun h => hb0 h.2.2.1
         clear hma hd hown
         go_wp2
         have hW : (((set4 w1 (w.heap.size + 1) (.int .i64 0) (.int .i64 0) (.int .i64 0) (.string ⟨#[]⟩)).alloc (.cells #[.slice (some ⟨g, 0, none⟩) n cap, .int .i64 0] 248))).heap[w.heap.size + 1]? = some (.cells #[.int .i64 0, .int .i64 0, .int .i64 0, .string ⟨#[]⟩] 113 (0, 0)) := hal (set4_same hrb _ _ _ _)
         have hB : Below w.heap.size w (((set4 w1 (w.heap.size + 1) (.int .i64 0) (.int .i64 0) (.int .i64 0) (.string ⟨#[]⟩)).alloc (.cells #[.slice (some ⟨g, 0, none⟩) n cap, .int .i64 0] 248))) := below_al (below_set4 hbw (show w.heap.size ≤ w.heap.size + 1 by omega) _ _ _ _) _
         change bodyPost _ _ _ _ _ (((set4 w1 (w.heap.size + 1) (.int .i64 0) (.int .i64 0) (.int .i64 0) (.string ⟨#[]⟩)).alloc (.cells #[.slice (some ⟨g, 0, none⟩) n cap, .int .i64 0] 248)))
         generalize ((set4 w1 (w.heap.size + 1) (.int .i64 0) (.int .i64 0) (.int .i64 0) (.string ⟨#[]⟩)).alloc (.cells #[.slice (some ⟨g, 0, none⟩) n cap, .int .i64 0] 248)) = WF at *
         have j0 := blk_cell hW 0
         have j1 := blk_cell hW 1
         have j2 := blk_cell hW 2
         have j3 := blk_cell hW 3
         clear hW hcr hfr
         refine bodyPost_ret (v := .tuple #[.agg #[.int .i64 0, .int .i64 0, .int .i64 0, .string ⟨#[]⟩], .int .i64 1]) ?_ rfl ⟨.inr (.inl ⟨n, Hd.out, hno.out, rfl⟩), hB⟩
         simp [results, Tryz.results145, go_sem, j0, j1, j2, j3]
     · have hno : Hid (¬ SetOk d bits m y) := fun h => hdd h.2.1
       clear hma hd hown
       go_wp2
       have hW : (((set4 w1 (w.heap.size + 1) (.int .i64 0) (.int .i64 0) (.int .i64 0) (.string ⟨#[]⟩)).alloc (.cells #[.slice (some ⟨g, 0, none⟩) n cap, .int .i64 0] 248))).heap[w.heap.size + 1]? = some (.cells #[.int .i64 0, .int .i64 0, .int .i64 0, .string ⟨#[]⟩] 113 (0, 0)) := hal (set4_same hrb _ _ _ _)
       have hB : Below w.heap.size w (((set4 w1 (w.heap.size + 1) (.int .i64 0) (.int .i64 0) (.int .i64 0) (.string ⟨#[]⟩)).alloc (.cells #[.slice (some ⟨g, 0, none⟩) n cap, .int .i64 0] 248))) := below_al (below_set4 hbw (show w.heap.size ≤ w.heap.size + 1 by omega) _ _ _ _) _
       change bodyPost _ _ _ _ _ (((set4 w1 (w.heap.size + 1) (.int .i64 0) (.int .i64 0) (.int .i64 0) (.string ⟨#[]⟩)).alloc (.cells #[.slice (some ⟨g, 0, none⟩) n cap, .int .i64 0] 248)))
       generalize ((set4 w1 (w.heap.size + 1) (.int .i64 0) (.int .i64 0) (.int .i64 0) (.string ⟨#[]⟩)).alloc (.cells #[.slice (some ⟨g, 0, none⟩) n cap, .int .i64 0] 248)) = WF at *
       have j0 := blk_cell hW 0
       have j1 := blk_cell hW 1
       have j2 := blk_cell hW 2
       have j3 := blk_cell hW 3
       clear hW hcr hfr
       refine bodyPost_ret (v := .tuple #[.agg #[.int .i64 0, .int .i64 0, .int .i64 0, .string ⟨#[]⟩], .int .i64 1]) ?_ rfl ⟨.inr (.inl ⟨n, Hd.out, hno.out, rfl⟩), hB⟩
       simp [results, Tryz.results145, go_sem, j0, j1, j2, j3]
   · have hno : Hid (¬ SetOk d bits dep y) := fun h => hdl h.1
     clear hma hd hown
     go_wp2
     have hW : (((set4 w1 (w.heap.size + 1) (.int .i64 0) (.int .i64 0) (.int .i64 0) (.string ⟨#[]⟩)).alloc (.cells #[.slice (some ⟨g, 0, none⟩) n cap, .int .i64 0] 248))).heap[w.heap.size + 1]? = some (.cells #[.int .i64 0, .int .i64 0, .int .i64 0, .string ⟨#[]⟩] 113 (0, 0)) := hal (set4_same hrb _ _ _ _)
     have hB : Below w.heap.size w (((set4 w1 (w.heap.size + 1) (.int .i64 0) (.int .i64 0) (.int .i64 0) (.string ⟨#[]⟩)).alloc (.cells #[.slice (some ⟨g, 0, none⟩) n cap, .int .i64 0] 248))) := below_al (below_set4 hbw (show w.heap.size ≤ w.heap.size + 1 by omega) _ _ _ _) _
     change bodyPost _ _ _ _ _ (((set4 w1 (w.heap.size + 1) (.int .i64 0) (.int .i64 0) (.int .i64 0) (.string ⟨#[]⟩)).alloc (.cells #[.slice (some ⟨g, 0, none⟩) n cap, .int .i64 0] 248)))
     generalize ((set4 w1 (w.heap.size + 1) (.int .i64 0) (.int .i64 0) (.int .i64 0) (.string ⟨#[]⟩)).alloc (.cells #[.slice (some ⟨g, 0, none⟩) n cap, .int .i64 0] 248)) = WF at *
     have j0 := blk_cell hW 0
     have j1 := blk_cell hW 1
     have j2 := blk_cell hW 2
     have j3 := blk_cell hW 3
     clear hW hcr hfr
     refine bodyPost_ret (v := .tuple #[.agg #[.int .i64 0, .int .i64 0, .int .i64 0, .string ⟨#[]⟩], .int .i64 1]) ?_ rfl ⟨.inr (.inl ⟨n, Hd.out, hno.out, rfl⟩), hB⟩
     simp [results, Tryz.results145, go_sem, j0, j1, j2, j3]
 · have Hno := Lib.hid hno
   have hpb := (blk2_below hb).1
   have hrb := (blk2_below hb).2
   have hbw := below_box (below_box hb)
   have hcp := blk_cell hpb
   have hlp := lt_of_block hpb
   have hcr := blk_cell hrb
   have hfr := blk_free hrb
   have hlr := lt_of_block hrb
   clear hno hma
   go_wp2
   have hW : (((set4 w1 (w.heap.size + 1) (.int .i64 0) (.int .i64 0) (.int .i64 0) (.string ⟨#[]⟩)).alloc (.cells #[.slice none 0 0, .int .i64 0] 248))).heap[w.heap.size + 1]? = some (.cells #[.int .i64 0, .int .i64 0, .int .i64 0, .string ⟨#[]⟩] 113 (0, 0)) := hal (set4_same hrb _ _ _ _)
   have hB : Below w.heap.size w (((set4 w1 (w.heap.size + 1) (.int .i64 0) (.int .i64 0) (.int .i64 0) (.string ⟨#[]⟩)).alloc (.cells #[.slice none 0 0, .int .i64 0] 248))) := below_al (below_set4 hbw (show w.heap.size ≤ w.heap.size + 1 by omega) _ _ _ _) _
   change bodyPost _ _ _ _ _ (((set4 w1 (w.heap.size + 1) (.int .i64 0) (.int .i64 0) (.int .i64 0) (.string ⟨#[]⟩)).alloc (.cells #[.slice none 0 0, .int .i64 0] 248)))
   generalize ((set4 w1 (w.heap.size + 1) (.int .i64 0) (.int .i64 0) (.int .i64 0) (.string ⟨#[]⟩)).alloc (.cells #[.slice none 0 0, .int .i64 0] 248)) = WF at *
   have j0 := blk_cell hW 0
   have j1 := blk_cell hW 1
   have j2 := blk_cell hW 2
   have j3 := blk_cell hW 3
   clear hW hcr hfr
   refine bodyPost_ret (v := .tuple #[.agg #[.int .i64 0, .int .i64 0, .int .i64 0, .string ⟨#[]⟩], .int .i64 2]) ?_ rfl ⟨.inl ⟨Hno.out, rfl⟩, hB⟩
   simp [results, Tryz.results145, go_sem, j0, j1, j2, j3]
end Go.Proofs.YtijhamllnnilbaaGreatDoor.Dr
namespace Go.Proofs.YtijhamllnnilbaaGreatDoor.Gr
open Go.RowKit Go.Proofs.YtijhamllnnilbaaGreatDoor.Mem Go.Proofs.YtijhamllnnilbaaGreatDoor.Pg Go.Proofs.YtijhamllnnilbaaGreatDoor.Kp Go.Proofs.YtijhamllnnilbaaGreatDoor.Sp
set_option linter.unusedVariables false
theorem below_keep {S : Nat → Prop} {B0 : Nat} {w a b : World} (h : Below B0 w a) (hB : B0 ≤ a.heap.size) (k : Keep S a b) (hs : ∀ i, S i → B0 ≤ i) : Below B0 w b := h.trans (k.to_below hB hs)
abbrev none0 : Int → Option (List UInt8) := fun _ => none
theorem rd_in {n : Nat} {B : Nat → List UInt8} {j : Nat} (h : j < n) : rd n (-1) B j = (B j, 0) := by
 unfold rd
 rw [if_neg (by omega), if_pos ⟨by omega, by omega⟩, Int.toNat_natCast]
end Go.Proofs.YtijhamllnnilbaaGreatDoor.Gr
namespace Go.Proofs.YtijhamllnnilbaaGreatDoor.Bl
open Go.RowKit Go.Proofs.YtijhamllnnilbaaGreatDoor.Mem Go.Proofs.YtijhamllnnilbaaGreatDoor.Pg

theorem dropWhile_nil {α : Type} (p : α → Bool) : ∀ l : List α, l.dropWhile p = [] ↔ ∀ x ∈ l, p x = true
 | [] => by simp
 | a :: l => by
  by_cases h : p a = true
  · simp [h, dropWhile_nil p l]
  · simp [h]
theorem trimB_nil (l : List UInt8) (c : UInt8) : Lib.trimB l c = [] ↔ ∀ x ∈ l, x = c := by
 unfold Lib.trimB Lib.trimLeftB Lib.trimRightB
 rw [dropWhile_nil]
 constructor
 · intro h x hx
   have h0 : l.reverse.dropWhile (· == c) = [] := by
    rcases hd : l.reverse.dropWhile (· == c) with _ | ⟨y, ys⟩
    · rfl
    · have h1 := List.head_dropWhile_not (fun x => x == c) (l := l.reverse) (by rw [hd]; simp)
      have h2 := h y (by rw [hd]; simp)
      simp [hd] at h1
      simp at h2
      exact absurd h2 h1
   rw [dropWhile_nil] at h0
   simpa using h0 x (by simpa using hx)
 · intro h x hx
   have h0 : l.reverse.dropWhile (· == c) = [] := by
    rw [dropWhile_nil]
    intro y hy
    simpa using h y (by simpa using hy)
   rw [h0] at hx
   simp at hx
structure Pg where
 (k d x : Int)
 b : List UInt8
def Pg.cells (p : Pg) : List Value := [.int .i64 p.k, .int .i64 p.d, .int .i64 p.x, .string (str p.b)]
def Pgs (w : World) (A : Option Addr) (n : Nat) (l : List Pg) : Prop :=
 l.length = n ∧ n ≤ 1000 ∧ (0 < n → ∃ b off, A = some ⟨b, off, none⟩ ∧ b < w.heap.size ∧ ∀ i p, l[i]? = some p → ∀ j u, p.cells[j]? = some u → w.cell? ⟨b, off + i * 4 + j, none⟩ = some u)
def nAt (z : Int) (i : Nat) : Nat := min (z - 200 * i).toNat 200
def PgOk (z : Int) (len i : Nat) (p : Pg) : Prop := p.k = 5 ∧ (p.x = 0 ↔ i + 1 = len) ∧ p.b.length = 240 ∧ ∀ c ∈ p.b.drop (nAt z i), c = 0
def GetOk (z : Int) (l : List Pg) : Prop := l.length ≠ 0 ∧ l.length = pgI z ∧ ∀ i p, l[i]? = some p → PgOk z l.length i p
def got (z : Int) (l : List Pg) : Nat → List UInt8
 | 0 => []
 | j + 1 => got z l j ++ match l[j]? with | some p => p.b.take (nAt z j) | none => []
def GetPost (w : World) (z : Int) (l : List Pg) (e : Ending) (w' : World) : Prop :=
 ((GetOk z l ∧ e = .returned (.tuple #[.string (str (got z l l.length)), .bool true])) ∨ (¬ GetOk z l ∧ e = .returned (.tuple #[.string ⟨#[]⟩, .bool false]))) ∧ Below w.heap.size w w'
theorem pgI_lt (z : Int) (j : Nat) (h : j < pgI z) : 200 * (j : Int) < z ∧ 40 < z ∧ z ≤ 400 := by
 unfold pgI at h
 split at h <;> omega
theorem got_len {z : Int} {l : List Pg} {len : Nat} : ∀ j, j < pgI z → (∀ i, i < j → ∃ p, l[i]? = some p ∧ PgOk z len i p) → (got z l j).length = 200 * j := by
 intro j
 induction j with
 | zero => intro _ _; rfl
 | succ j ih =>
  intro h hp
  obtain ⟨p, h1, h2⟩ := hp j (by omega)
  have hz := pgI_lt z (j + 1) h
  have := h2.2.2.1
  rw [got, h1, List.length_append, ih (by omega) (fun i hi => hp i (by omega)), List.length_take, this]
  unfold nAt
  omega
theorem ext_drop (l : List UInt8) (n : Nat) : (str l).extract n (str l).size = str (l.drop n) := by
 rw [str_size, Lib.extract_mk, List.take_of_length_le (by simp)]
theorem isB_drew {T e : TypeId} {B b : Nat} {bs : List Value} {w : World} (h : Lib.IsBuilderF T e B b bs w) : Lib.IsBuilderF T e B b bs w.drew := h.imp Lib.BuilderAtF.drew Lib.BuilderAtF.drew

theorem below_tr' {B : Nat} {a b c : World} (h : Below B a b) (k : Below B b c) : Below B a c := h.trans k

set_option maxRecDepth 100000 in
set_option maxHeartbeats 4000000 in
theorem get_any (z : Int) (A : Option Addr) (n cap : Nat) (l : List Pg) (w : World) (hz : Pgs w A n l) :
 Calls Tryz.prog 77 #[.int .i64 z, .slice A n cap] w (GetPost w z l) := by
 have hpg := fun w => blobPagesI_any z w
 have hn : l.length = n := hz.1
 by_cases h0 : n = 0
 · have hno : ¬ GetOk z l := fun h => h.1 (by omega)
   have d0 : ((n : Int) == 0) = true := by simp; omega
   have Hno := Lib.hid hno
   clear hno hpg hz hn
   subst h0
   go_enter Tryz.func77, Tryz.ntmps77
   go_wp2
   go_ret2
   exact ⟨.inr ⟨Hno.out, rfl⟩, Below.refl _ _⟩
 · have d0 : ((n : Int) == 0) = false := by simp; omega
   by_cases h1 : n = pgI z
   · have d1 : ((n : Int) != (pgI z : Int)) = false := by simp; omega
     have hn2 : n ≤ 2 := by have := pgI_le z; omega
     have H1 := Lib.hid h1
     have H0 := Lib.hid h0
     obtain ⟨P, hP⟩ : ∃ P, P = pgI z := ⟨_, rfl⟩
     rw [← hP] at d1 hpg
     have HP := Lib.hid hP
     obtain ⟨b, off, rfl, hbl, hcell⟩ := hz.2.2 (by omega)
     have Hcell := Lib.hid hcell
     have Hn := Lib.hid hn
     clear hP h1 h0 hz hcell hn
     go_enter Tryz.func77, Tryz.ntmps77
     go_wp2_with fail
     refine (hpg _).mono ?_
     rintro e w1 ⟨rfl, rfl⟩
     clear hpg
     go_wp2_with fail
     go_loopw [23] (fun i wr => ∃ j : Nat, i = .int .i64 j ∧ j ≤ n ∧ Lib.IsBuilderF 239 5 w1.heap.size w1.heap.size (Lib.byteCells (got z l j)) wr ∧ Below w1.heap.size w1 wr ∧ Hid (∀ i, i < j → ∃ p, l[i]? = some p ∧ PgOk z l.length i p)) (fun i _ => n - (intOf i).toNat)
     case atStart => exact ⟨0, rfl, Nat.zero_le _, .inl ⟨Nat.le_refl _, .slice none 0 0, heap_alloc_new _ _, World.ownsRowF_of (World.ownsRow_nil _ _ _ _), by simp [Value.ownBlock]⟩, below_al (Below.refl _ _) _, Lib.hid (fun i hi => absurd hi (by omega))⟩
     case round =>
      obtain ⟨j, rfl, hj, hbu, hbel, hoks⟩ := hrel
      by_cases hlt : j < n
      · obtain ⟨p, hp⟩ : ∃ p, l[j]? = some p := ⟨l[j]'(by have := Hn.out; omega), by rw [List.getElem?_eq_getElem]⟩
        obtain ⟨pk, pd, px, pb⟩ := p
        have c0 := (hbel.cell (p := ⟨b, off + j * 4 + 0, none⟩) hbl).trans (Hcell.out j _ hp 0 _ rfl)
        have c1 := (hbel.cell (p := ⟨b, off + j * 4 + 1, none⟩) hbl).trans (Hcell.out j _ hp 1 _ rfl)
        have c2 := (hbel.cell (p := ⟨b, off + j * 4 + 2, none⟩) hbl).trans (Hcell.out j _ hp 2 _ rfl)
        have c3 := (hbel.cell (p := ⟨b, off + j * 4 + 3, none⟩) hbl).trans (Hcell.out j _ hp 3 _ rfl)
        rw [Nat.add_zero] at c0
        have hz := pgI_lt z j (by have := H1.out; omega)
        have hgl : (Lib.byteCells (got z l j)).length = 200 * j := by rw [Lib.byteCells, List.length_map]; exact got_len j (by have := H1.out; omega) hoks.out
        have hlen := fun W h => Tryz.Builder_Len_f w1.heap.size w1.heap.size (Lib.byteCells (got z l j)) W h
        rw [hgl] at hlen
        obtain ⟨m, hm⟩ : ∃ m, m = nAt z j := ⟨_, rfl⟩
        have hmin : min (z - ((200 * j : Nat) : Int)) 200 = (m : Int) := by rw [hm, nAt]; omega
        have hm2 : m ≤ 200 := by rw [hm, nAt]; omega
        have hwr : IntKind.i64.wrap (z - ((200 * j : Nat) : Int)) = z - ((200 * j : Nat) : Int) := IntWalk.i64_in _ (by omega)
        have hwr2 : wrap64 (z - ((200 * j : Nat) : Int)) = z - ((200 * j : Nat) : Int) := IntWalk.wrap64_in _ (by omega)
        have Hm := Lib.hid hm
        have Hz := Lib.hid hz
        have Hp := Lib.hid hp
        clear hm hz hp hgl
        obtain ⟨J, hJ⟩ : ∃ J, J = 200 * j := ⟨_, rfl⟩
        rw [← hJ] at hlen hmin hwr hwr2
        clear hJ
        go_wp2_with fail
        with_reducible refine (hlen _ (hbu.alloc _)).mono ?_
        rintro e w2 ⟨rfl, rfl⟩
        clear hlen
        generalize hbx : (px == 0) = bx
        generalize hbl' : ((j : Int) + 1 == (n : Int)) = bl
        have Hbx := Lib.hid hbx
        have Hbl := Lib.hid hbl'
        by_cases e1 : pk = 5
        · have d5 : (pk != 5) = false := by simpa using e1
          have E1 := Lib.hid e1
          clear e1
          by_cases e2 : bx = bl
          · subst e2
            by_cases e3 : pb.length = 240
            · have d240 : (((str pb).size : Int) != 240) = false := by rw [str_size]; simp; omega
              have hms : m ≤ (str pb).size := by rw [str_size]; omega
              have hms2 : (m : Int) ≤ ((str pb).size : Int) := by omega
              have htr := fun W => Tryz.strings_Trim_one ((str pb).extract m (str pb).size) 0 (by decide) W (by rw [ext_drop, str_size, List.length_drop]; omega)
              have hdt : ((str pb).extract m (str pb).size).data.toList = pb.drop m := by rw [ext_drop]
              rw [hdt] at htr
              have E3 := Lib.hid e3
              have hs240 : (str pb).size = 240 := by rw [str_size]; exact e3
              obtain ⟨T, hT⟩ : ∃ T, T = Lib.trimB (pb.drop m) 0 := ⟨_, rfl⟩
              rw [← hT] at htr
              have HT := Lib.hid hT
              clear e3 hdt hT
              obtain ⟨S, hS⟩ : ∃ S, S = str pb := ⟨_, rfl⟩
              rw [← hS] at d240 hms hms2 htr hs240 ⊢
              rw [hs240] at htr hms hms2 d240
              have HS := Lib.hid hS
              clear hS
              rcases T with _ | ⟨t0, ts⟩
              · go_wp2_with fail
                with_reducible refine (htr _).mono ?_
                rintro e w3 ⟨rfl, hw3⟩
                have hbl3 : Hid (Below w1.heap.size w1 w3) ∧ Lib.IsBuilderF 239 5 w1.heap.size w1.heap.size (Lib.byteCells (got z l j)) w3 ∧ w3.heap[wr.heap.size]? = some (.cells #[.int .i64 pk, .int .i64 pd, .int .i64 px, .string S] 113 (0, 0)) := by
                 rcases hw3 with rfl | rfl
                 · exact ⟨below_al hbel _, hbu.alloc _, heap_alloc_new _ _⟩
                 · exact ⟨below_dr (below_al hbel _), isB_drew (hbu.alloc _), heap_alloc_new wr _⟩
                obtain ⟨hbw3, hbu3, hpg3⟩ := hbl3
                clear hw3 htr hbu hbel
                have hcp3 := blk_cell hpg3
                have hzp3 := lt_of_block hpg3
                have hcells : Hid (Lib.byteCells (got z l (j + 1)) = Lib.byteCells (got z l j) ++ Lib.strCells (S.extract 0 m)) := by
                 show _ = _
                 rw [got, Hp.out, HS.out, Lib.extract_mk]
                 simp [Lib.byteCells, Lib.strCells, ← Hm.out]
                have hok1 : Hid (∀ i, i < j + 1 → ∃ p, l[i]? = some p ∧ PgOk z l.length i p) := fun i hi => by
                 rcases Nat.lt_or_eq_of_le (Nat.le_of_lt_succ hi) with h | rfl
                 · exact hoks.out i h
                 · have h3 := Hn.out
                   have hb1 := Hbx.out
                   have hb2 := Hbl.out
                   refine ⟨_, Hp.out, E1.out, ?_, E3.out, by rw [← Hm.out]; exact (trimB_nil _ _).1 HT.out.symm⟩
                   have hb3 := hb1.trans hb2.symm
                   rw [Bool.eq_iff_iff] at hb3
                   simp at hb3
                   show px = 0 ↔ _
                   omega
                have hws := Tryz.Builder_WriteString_k w1.heap.size w1.heap.size (Lib.byteCells (got z l j)) (S.extract 0 m) w3 hbu3 (by
                 have h1 := got_len (z := z) (l := l) (len := l.length) j (by have := H1.out; omega) hoks.out
                 have h2 : (S.extract 0 m).size ≤ 240 := by rw [ByteArray.size_extract]; omega
                 rw [Lib.byteCells, List.length_map]
                 omega) hbw3.out.size
                go_wp2_with fail
                with_reducible refine hws.mono ?_
                rintro e w4 ⟨rfl, hbu4, hbw4, _⟩
                rw [← hcells.out] at hbu4
                have hbw := below_tr' hbw3.out hbw4
                clear hws hcp3 hzp3 hpg3 hbu3 hbw4
                go_wp2_with fail
                go_roundw
                case rel => exact ⟨j + 1, by go_num, by omega, .inr hbu4, hbw, hok1⟩
                case measure => simp [intOf]; omega
              · have hne : Hid (¬ GetOk z l) := fun h => by
                 have h4 := (h.2.2 j _ Hp.out).2.2.2
                 rw [← Hm.out] at h4
                 have := (trimB_nil (pb.drop m) 0).2 h4
                 rw [← HT.out] at this
                 cases this
                go_wp2_with fail
                with_reducible refine (htr _).mono ?_
                rintro e w3 ⟨rfl, hw3⟩
                have hbl3 : Hid (Below w1.heap.size w1 w3) := by
                 rcases hw3 with rfl | rfl
                 · exact below_al hbel _
                 · exact below_dr (below_al hbel _)
                clear hw3 htr hbu hbel
                go_wp2
                go_ret2
                exact ⟨.inr ⟨hne.out, rfl⟩, hbl3.out⟩
            · have d240 : (((str pb).size : Int) != 240) = true := by rw [str_size]; simp; omega
              have Hno : Hid (¬ GetOk z l) := fun h => e3 (h.2.2 j _ Hp.out).2.2.1
              clear hbu
              go_wp2
              go_ret2
              exact ⟨.inr ⟨Hno.out, rfl⟩, below_al hbel _⟩
          · have hxn : (bx != bl) = true := by simpa using e2
            clear hbx hbl'
            have hbx := Hbx.out
            have hbl' := Hbl.out
            have Hno : Hid (¬ GetOk z l) := fun h => e2 (by have h2 : px = 0 ↔ j + 1 = l.length := (h.2.2 j _ Hp.out).2.1; have h3 := Hn.out; rw [← Hbx.out, ← Hbl.out, Bool.eq_iff_iff]; simp; omega)
            clear hbu
            go_wp2
            go_ret2
            exact ⟨.inr ⟨Hno.out, rfl⟩, below_al hbel _⟩
        · have d5 : (pk != 5) = true := by simpa using e1
          clear hbx hbl'
          have Hno : Hid (¬ GetOk z l) := fun h => e1 (h.2.2 j _ Hp.out).1
          clear hbu
          go_wp2
          go_ret2
          exact ⟨.inr ⟨Hno.out, rfl⟩, below_al hbel _⟩
      · obtain rfl : j = n := by omega
        have hok : Hid (GetOk z l) := ⟨by have := Hn.out; have := H0.out; omega, by have := Hn.out; have := H1.out; omega, fun i p hp => by
         obtain ⟨q, h1, h2⟩ := hoks.out i (by rw [← Hn.out]; exact (List.getElem?_eq_some_iff.1 hp).1)
         rw [hp] at h1
         injection h1 with h1
         rw [h1]
         exact h2⟩
        have hst := Tryz.Builder_String_any_k w1.heap.size w1.heap.size (got z l j) wr hbu hbel.size
        go_wp2_with fail
        with_reducible refine hst.mono ?_
        rintro e w2 ⟨rfl, _, hb2, _⟩
        clear hst hbu
        go_wp2
        go_ret2
        exact ⟨.inl ⟨hok.out, by rw [Hn.out]; rfl⟩, below_tr' hbel hb2⟩
   · have hno : ¬ GetOk z l := fun h => h1 (by have := h.2.1; omega)
     have d1 : ((n : Int) != (pgI z : Int)) = true := by simp; omega
     have Hno := Lib.hid hno
     obtain ⟨P, hP⟩ : ∃ P, P = pgI z := ⟨_, rfl⟩
     rw [← hP] at d1 hpg
     clear hno hz hP h1 hn
     go_enter Tryz.func77, Tryz.ntmps77
     go_wp2_with fail
     refine (hpg _).mono ?_
     rintro e w1 ⟨rfl, rfl⟩
     clear hpg
     go_wp2
     go_ret2
     exact ⟨.inr ⟨Hno.out, rfl⟩, Below.refl _ _⟩
end Go.Proofs.YtijhamllnnilbaaGreatDoor.Bl
namespace Go.Proofs.YtijhamllnnilbaaGreatDoor.Bl
open Go.RowKit Go.Proofs.YtijhamllnnilbaaGreatDoor.Mem Go.Proofs.YtijhamllnnilbaaGreatDoor.Pg
def putPg (l : List UInt8) (at' : List Int) (n : Nat) : List Pg := (List.range n).map fun i => ⟨5, 0, nextOf at' i, body l i⟩
theorem putPg_get {l : List UInt8} {at' : List Int} {n i : Nat} {p : Pg} (h : (putPg l at' n)[i]? = some p) : i < n ∧ p = ⟨5, 0, nextOf at' i, body l i⟩ := by
 have hi : i < n := by have := (List.getElem?_eq_some_iff.1 h).1; simpa [putPg] using this
 rw [putPg, List.getElem?_map, List.getElem?_range hi] at h
 simp at h
 exact ⟨hi, h.symm⟩
theorem putPg_at (l : List UInt8) (at' : List Int) (n i : Nat) (h : i < n) : (putPg l at' n)[i]? = some ⟨5, 0, nextOf at' i, body l i⟩ := by simp [putPg, h]
theorem rows_get (l : List UInt8) (at' : List Int) : ∀ n i j, i < n → j < 4 → (rows l at' n)[i * 4 + j]? = (pgRow l at' i)[j]? := by
 intro n
 induction n with
 | zero => intro i j h; omega
 | succ n ih =>
  intro i j h hj
  rw [rows]
  rcases Nat.lt_or_eq_of_le (Nat.le_of_lt_succ h) with h' | rfl
  · rw [List.getElem?_append_left (by rw [rows_length]; omega)]
    exact ih i j h' hj
  · rw [List.getElem?_append_right (by rw [rows_length]; omega), rows_length, Nat.add_sub_cancel_left]
theorem pgs_own {w : World} {base g cap n : Nat} {l : List UInt8} {at' : List Int} (h : w.ownsRow base 113 4 (.slice (some ⟨g, 0, none⟩) n cap) n (rows l at' n)) (hn : n ≤ 1000) (hg : g < w.heap.size) : Pgs w (some ⟨g, 0, none⟩) n (putPg l at' n) := by
 refine ⟨by simp [putPg], hn, fun _ => ⟨g, 0, rfl, hg, fun i p hp j u hu => ?_⟩⟩
 obtain ⟨hi, rfl⟩ := putPg_get hp
 have hj : j < 4 := by have := (List.getElem?_eq_some_iff.1 hu).1; simpa [Pg.cells] using this
 rw [Nat.zero_add]
 exact own_at h _ u (by rw [rows_get l at' n i j hi hj]; exact hu)
theorem body_len (l : List UInt8) (i : Nat) : (body l i).length = 240 := by
 have := part_len l i
 rw [body, List.length_append, zs, List.length_replicate]
 omega
theorem nAt_part (l : List UInt8) (i : Nat) : nAt l.length i = (part l i).length := by
 rw [part_len, nAt]
 omega
theorem body_take (l : List UInt8) (i : Nat) : (body l i).take (nAt l.length i) = part l i := by rw [nAt_part, body, List.take_left]
theorem body_drop (l : List UInt8) (i : Nat) : ∀ c ∈ (body l i).drop (nAt l.length i), c = 0 := by
 rw [nAt_part, body, List.drop_left]
 intro c hc
 exact (List.mem_replicate.1 hc).2
theorem getOk_put {l : List UInt8} {at' : List Int} (h : PutOk l at') : GetOk l.length (putPg l at' at'.length) := by
 have hl : (putPg l at' at'.length).length = at'.length := by simp [putPg]
 refine ⟨by rw [hl]; exact h.1, by rw [hl, pgI_nat]; exact h.2.1, fun i p hp => ?_⟩
 obtain ⟨hi, rfl⟩ := putPg_get hp
 refine ⟨rfl, ?_, body_len l i, body_drop l i⟩
 rw [hl]
 show nextOf at' i = 0 ↔ _
 unfold nextOf
 by_cases h1 : i + 1 < at'.length
 · rw [if_pos h1]
   have := (h.2.2 (i + 1) h1).1
   omega
 · rw [if_neg h1]
   omega
theorem got_put (l : List UInt8) (at' : List Int) (n : Nat) : ∀ j, j ≤ n → got l.length (putPg l at' n) j = l.take (200 * j) := by
 intro j
 induction j with
 | zero => intro _; rfl
 | succ j ih =>
  intro h
  rw [got, ih (by omega), putPg_at l at' n j (by omega)]
  show _ ++ (body l j).take _ = _
  rw [body_take, part, show 200 * (j + 1) = 200 * j + 200 from by omega, List.take_add]
theorem got_put_all {l : List UInt8} {at' : List Int} (h : PutOk l at') : got l.length (putPg l at' at'.length) at'.length = l := by
 rw [got_put _ _ _ _ (Nat.le_refl _), List.take_of_length_le]
 have h1 := h.1
 have h2 := h.2.1
 unfold pgN at h2
 split at h2 <;> omega
end Go.Proofs.YtijhamllnnilbaaGreatDoor.Bl
namespace Go.Proofs.YtijhamllnnilbaaGreatDoor.Gr
open Go.RowKit Go.Proofs.YtijhamllnnilbaaGreatDoor.Mem Go.Proofs.YtijhamllnnilbaaGreatDoor.Pg Go.ChangeShapes Go.WideShapes Go.Deep Go.Joins
theorem tab_of_reads {W : World} (h : Lib.VarReads Tryz.prog W "strings.asciiSpace" (Lib.tabData .u8 Lib.asciiSpaceTab)) : Tab W := by
 obtain ⟨g', t', cs, fuel, p, hg', ht', hvar, hd⟩ := h
 obtain rfl := Option.some.inj ((show Tryz.prog.globalNamed "strings.asciiSpace" = some 1 by kernel_rfl).symm.trans hg')
 obtain rfl := Option.some.inj ((show (Tryz.prog.globals[1]?).map (·.type) = some 326 by kernel_rfl).symm.trans ht')
 unfold Tab Lib.TabIs
 rw [hvar, ← Lib.cells_of_tab (n := 256) Tryz.underlying326 Tryz.underlying5 (by kernel_rfl) (by kernel_rfl) hd]
end Go.Proofs.YtijhamllnnilbaaGreatDoor.Gr
