/- Lemmas of the claim, in their order:
- The contract of dir's Halve.
- The contract of the entries' set.
-/
import Derived.Test.YtijhamllnnilbaaGreatDoorQ15
import Derived.Deep.QuietTactic
import Derived.BigQuiet
set_option linter.unusedVariables false
set_option linter.unusedSimpArgs false
namespace Go.Proofs.YtijhamllnnilbaaGreatDoor.Dr
open Go.RowKit Go.Proofs.YtijhamllnnilbaaGreatDoor.Mem Go.Proofs.YtijhamllnnilbaaGreatDoor.Pg

def Even2 (l : List UInt8) (n : Nat) : Prop := 2 ≤ n ∧ (ents l n).take (n / 2) = (ents l n).drop (n / 2)
def HalvePost (w : World) (k d x : Int) (l : List UInt8) (e : Ending) (w' : World) : Prop :=
 (((∀ n, ¬ IsDir k d l n) ∧ e = .returned (.tuple #[.agg #[.int .i64 0, .int .i64 0, .int .i64 0, .string ⟨#[]⟩], .int .i64 2])) ∨
  (∃ n, IsDir k d l n ∧ ¬ Even2 l n ∧ e = .returned (.tuple #[.agg #[.int .i64 0, .int .i64 0, .int .i64 0, .string ⟨#[]⟩], .int .i64 11])) ∨
  (∃ n, IsDir k d l n ∧ Even2 l n ∧ e = .returned (.tuple #[.agg #[.int .i64 k, .int .i64 (d - 1), .int .i64 x, .string (str (bodyOf ((ents l n).take (n / 2))))], .int .i64 0]))) ∧ Below w.heap.size w w'
theorem isDir_two {k d : Int} {l : List UInt8} {n : Nat} (h : IsDir k d l n) (h2 : ¬ n < 2) : n = 2 * (n / 2) ∧ 1 ≤ d := by
 have h0 := h.lo
 have h3 := h.size
 obtain ⟨m, rfl⟩ := Int.eq_ofNat_of_zero_le h0
 rw [Int.toNat_natCast] at h3
 cases m with
 | zero => simp at h3; omega
 | succ m => rw [Nat.pow_succ] at h3; omega

set_option maxRecDepth 100000 in
set_option maxHeartbeats 4000000 in
theorem halve_any (k d x : Int) (l : List UInt8) (w : World) :
 Calls Tryz.prog 226 #[.agg #[.int .i64 k, .int .i64 d, .int .i64 x, .string (str l)]] w (HalvePost w k d x l) := by
 have hof := fun w => of_any k d x l w
 generalize str l = S at *
 go_enter Tryz.func226, Tryz.ntmps226
 go_wp2_with fail
 with_reducible refine (hof _).mono ?_
 clear hof
 rintro e w1 (⟨n, g, cap, hd, rfl, hown, hgl, hgb, hb⟩ | ⟨hno, rfl, hb⟩)
 · have hpb := (blk2_below hb).1
   have hrb := (blk2_below hb).2
   have hbw := below_box (below_box hb)
   have hcap := (own_cap hown).2
   have hcp := blk_cell hpb
   have hlp := lt_of_block hpb
   have hle := hd.le
   have hcr := blk_cell hrb
   have hfr := blk_free hrb
   have hlr := lt_of_block hrb
   have Hd := Lib.hid hd
   by_cases hn2 : n < 2
   · obtain rfl : n = 1 := by omega
     have hno : Hid (¬ Even2 l 1) := fun h => by have := h.1; omega
     clear hd hown
     have hce := blk_cell (heap_alloc_new w1 (.cells #[.slice (some ⟨g, 0, none⟩) 1 cap, .int .i64 0] 248)) 0
     change _ = some (Value.slice (some ⟨g, 0, none⟩) 1 cap) at hce
     go_wp2_with fail
     go_region
     go_wp2
     have hW : (((set4 w1 (w.heap.size + 1) (.int .i64 0) (.int .i64 0) (.int .i64 0) (.string ⟨#[]⟩)).alloc (.cells #[.slice (some ⟨g, 0, none⟩) 1 cap, .int .i64 0] 248)).drew).heap[w.heap.size + 1]? = some (.cells #[.int .i64 0, .int .i64 0, .int .i64 0, .string ⟨#[]⟩] 113 (0, 0)) := hal (set4_same hrb _ _ _ _)
     have hB : Below w.heap.size w (((set4 w1 (w.heap.size + 1) (.int .i64 0) (.int .i64 0) (.int .i64 0) (.string ⟨#[]⟩)).alloc (.cells #[.slice (some ⟨g, 0, none⟩) 1 cap, .int .i64 0] 248)).drew) := below_dr (below_al (below_set4 hbw (show w.heap.size ≤ w.heap.size + 1 by omega) _ _ _ _) _)
     change bodyPost _ _ _ _ _ (((set4 w1 (w.heap.size + 1) (.int .i64 0) (.int .i64 0) (.int .i64 0) (.string ⟨#[]⟩)).alloc (.cells #[.slice (some ⟨g, 0, none⟩) 1 cap, .int .i64 0] 248)).drew)
     generalize ((set4 w1 (w.heap.size + 1) (.int .i64 0) (.int .i64 0) (.int .i64 0) (.string ⟨#[]⟩)).alloc (.cells #[.slice (some ⟨g, 0, none⟩) 1 cap, .int .i64 0] 248)).drew = WF at *
     have j0 := blk_cell hW 0
     have j1 := blk_cell hW 1
     have j2 := blk_cell hW 2
     have j3 := blk_cell hW 3
     clear hW hcr hfr hce
     refine bodyPost_ret (v := .tuple #[.agg #[.int .i64 0, .int .i64 0, .int .i64 0, .string ⟨#[]⟩], .int .i64 11]) ?_ rfl ⟨.inr (.inl ⟨1, Hd.out, hno.out, rfl⟩), hB⟩
     simp [results, Tryz.results226, go_sem, j0, j1, j2, j3]
   · obtain ⟨hh, hd1⟩ := isDir_two hd hn2
     obtain ⟨h, hhe⟩ : ∃ h, h = n / 2 := ⟨_, rfl⟩
     rw [← hhe] at hh
     have hce := blk_cell (heap_alloc_new w1 (.cells #[.slice (some ⟨g, 0, none⟩) n cap, .int .i64 0] 248)) 0
     change _ = some (Value.slice (some ⟨g, 0, none⟩) n cap) at hce
     have a2 : (n : Int) / 2 = (h : Int) := by omega
     have a1 : (n : Int).tdiv 2 = (h : Int) := by rw [Int.tdiv_eq_ediv_of_nonneg (by omega)]; exact a2
     have a3 : ((h : Int) == 0) = false := by simp; omega
     have a4 : h ≤ n := by omega
     have a5 : h ≤ cap := by omega
     have a6 : ¬ cap = h := by omega
     have a7 : ¬ h = 0 := by omega
     have Hhe := Lib.hid hhe
     have Hhh := Lib.hid hh
     clear hhe hh hd
     have hL : (ents l n).length = n := ents_len l n
     have hcl : Hid (∀ j, j < n → (w1.alloc (.cells #[.slice (some ⟨g, 0, none⟩) n cap, .int .i64 0] 248)).cell? ⟨g, j, none⟩ = some (.int .i64 ((ents l n).getD j 0))) := fun j hj => by
      refine own_at (hown.alloc _) j _ ?_
      rw [ints, List.getElem?_map, List.getElem?_eq_getElem (by omega), List.getD_eq_getElem?_getD, List.getElem?_eq_getElem (by omega)]
      rfl
     have heq : Hid (∀ W : World, (∀ j, j < n → W.cell? ⟨g, j, none⟩ = some (.int .i64 ((ents l n).getD j 0))) → Calls Tryz.prog 266 #[.slice (some ⟨g, 0, none⟩) h cap, .slice (some ⟨g, h, none⟩) (n - h) (cap - h)] W fun e w' => e = .returned (.bool ((ents l n).take h == (ents l n).drop h)) ∧ ∃ q, w' = W.drewN q) := fun W hW => by
      have hh := Hhh.out
      have e1 := Tryz.slices_Equal_int g 0 h cap g h (n - h) (cap - h) ((ents l n).take h) ((ents l n).drop h) W (by rw [List.length_take]; omega) (by rw [List.length_drop]; omega) (by omega) (by omega)
       (fun j hj => by rw [Nat.zero_add, hW j (by rw [List.length_take] at hj; omega)]; rw [List.getD_eq_getElem?_getD, List.getD_eq_getElem?_getD, List.getElem?_take, if_pos (by rw [List.length_take] at hj; omega)])
       (fun j hj => by rw [hW (h + j) (by rw [List.length_drop] at hj; omega)]; rw [List.getD_eq_getElem?_getD, List.getD_eq_getElem?_getD, List.getElem?_drop])
      rw [List.take_of_length_le (l := (ents l n).take h) (by rw [List.length_take]; omega), List.take_of_length_le (l := (ents l n).drop h) (by rw [List.length_drop]; omega)] at e1
      exact e1
     generalize hEQ : ((ents l n).take h == (ents l n).drop h) = EQ at heq
     have HEQ := Lib.hid hEQ
     have Hown := Lib.hid hown
     clear hEQ hown hL
     go_wp2_with fail
     go_quiet (first | (go_at_call 266; refine Calls.quiet_of (heq.out _ ?_); exact fun j hj => hcl.out j hj))
     have f1 : ((w1.alloc (.cells #[.slice (some ⟨g, 0, none⟩) n cap, .int .i64 0] 248)).drewN nq).heap[w1.heap.size]? = some (.cells #[.slice (some ⟨g, 0, none⟩) n cap, .int .i64 0] 248 (0, 0)) := heap_alloc_new w1 _
     have f2 : ((w1.alloc (.cells #[.slice (some ⟨g, 0, none⟩) n cap, .int .i64 0] 248)).drewN nq).heap[w.heap.size]? = _ := hal hpb
     have f3 : ((w1.alloc (.cells #[.slice (some ⟨g, 0, none⟩) n cap, .int .i64 0] 248)).drewN nq).heap[w.heap.size + 1]? = _ := hal hrb
     have f4 : Below w.heap.size w ((w1.alloc (.cells #[.slice (some ⟨g, 0, none⟩) n cap, .int .i64 0] 248)).drewN nq) := below_drN (below_al hbw _) nq
     have f5 : g < ((w1.alloc (.cells #[.slice (some ⟨g, 0, none⟩) n cap, .int .i64 0] 248)).drewN nq).heap.size := lt_al hgl _
     have f6 : Hid (∀ j, j < n → ((w1.alloc (.cells #[.slice (some ⟨g, 0, none⟩) n cap, .int .i64 0] 248)).drewN nq).cell? ⟨g, j, none⟩ = some (.int .i64 ((ents l n).getD j 0))) := hcl.out
     have hgb1 : w.heap.size + 1 < g := by simp at hgb; omega
     have hge : g < w1.heap.size := hgl
     have hwl : w.heap.size + 1 < w1.heap.size := lt_of_block hrb
     clear hb hpb hrb hbw hcp hlp hcr hfr hlr hce hcl heq hgb Hown
     generalize (w1.alloc (.cells #[.slice (some ⟨g, 0, none⟩) n cap, .int .i64 0] 248)).drewN nq = W2 at *
     have c0 := blk_cell f1
     have c0f := blk_free f1
     have c1 := blk_cell f2
     have c2 := blk_cell f3
     have c2f := blk_free f3
     have z0 := lt_of_block f1
     have z1 := lt_of_block f2
     have z2 := lt_of_block f3
     cases EQ with
     | false =>
      have hno : Hid (¬ Even2 l n) := fun he => by
       have h1 := HEQ.out
       have h2 := he.2
       rw [← Hhe.out] at h2
       rw [h2] at h1
       simp at h1
      go_wp2
      have hW : (set4 W2 (w.heap.size + 1) (.int .i64 0) (.int .i64 0) (.int .i64 0) (.string ⟨#[]⟩)).heap[w.heap.size + 1]? = some (.cells #[.int .i64 0, .int .i64 0, .int .i64 0, .string ⟨#[]⟩] 113 (0, 0)) := set4_same f3 _ _ _ _
      have hB : Below w.heap.size w (set4 W2 (w.heap.size + 1) (.int .i64 0) (.int .i64 0) (.int .i64 0) (.string ⟨#[]⟩)) := below_set4 f4 (show w.heap.size ≤ w.heap.size + 1 by omega) _ _ _ _
      change bodyPost _ _ _ _ _ (set4 W2 (w.heap.size + 1) (.int .i64 0) (.int .i64 0) (.int .i64 0) (.string ⟨#[]⟩))
      generalize set4 W2 (w.heap.size + 1) (.int .i64 0) (.int .i64 0) (.int .i64 0) (.string ⟨#[]⟩) = WF at *
      have j0 := blk_cell hW 0
      have j1 := blk_cell hW 1
      have j2 := blk_cell hW 2
      have j3 := blk_cell hW 3
      clear hW c2 c2f
      refine bodyPost_ret (v := .tuple #[.agg #[.int .i64 0, .int .i64 0, .int .i64 0, .string ⟨#[]⟩], .int .i64 11]) ?_ rfl ⟨.inr (.inl ⟨n, Hd.out, hno.out, rfl⟩), hB⟩
      simp [results, Tryz.results226, go_sem, j0, j1, j2, j3]
     | true =>
      have heven : Hid (Even2 l n) := ⟨by omega, by rw [← Hhe.out]; simpa using HEQ.out⟩
      have hd5 : d ≤ 5 := Hd.out.hi
      have hL : (ents l n).length = n := ents_len l n
      have hhn : h ≤ n ∧ 1 ≤ h ∧ h ≤ 32 := by have := Hhh.out; omega
      have hpa := fun W hz => page_any k d x 0 (d - 1) S (some ⟨g, 0, none⟩) h cap ((ents l n).take h) W hz (fun y hy => by
       obtain ⟨i, hi, rfl⟩ := List.mem_map.1 (List.mem_of_mem_take hy)
       exact Hd.out.may i (by simpa using hi)) hhn.2.1 hhn.2.2
      have Hpa := Lib.hid hpa
      have hPP : Hid (str (bodyOf ((ents l n).take h)) = str (bodyOf ((ents l n).take (n / 2)))) := by show _ = _; rw [Hhe.out]
      clear hpa hL
      go_wp2_with fail
      have hint : Ints (W2.setCell ⟨w1.heap.size, 0, none⟩ (.slice (some ⟨g, 0, none⟩) h cap)) (some ⟨g, 0, none⟩) h ((ents l n).take h) := by
       have hL : (ents l n).length = n := ents_len l n
       refine ⟨by rw [List.length_take]; omega, by omega, fun _ => ⟨g, 0, rfl, by simpa using f5, fun j hj => ?_⟩⟩
       rw [Nat.zero_add, World.cell?_setCell_other _ _ _ _ (fun e => by injection e with e1; omega), f6.out j (by omega), List.getD_eq_getElem?_getD, List.getD_eq_getElem?_getD, List.getElem?_take, if_pos hj]
      have hr5 := (heap_setCell_other W2 ⟨w1.heap.size, 0, none⟩ (w.heap.size + 1) (.slice (some ⟨g, 0, none⟩) h cap) (show w.heap.size + 1 ≠ w1.heap.size by omega)).trans f3
      have hb5 := below_set (j := 0) (u := .slice (some ⟨g, 0, none⟩) h cap) f4 (show w.heap.size ≤ w1.heap.size by omega)
      refine (Hpa.out _ hint).mono ?_
      rintro e w5 ⟨rfl, hbp⟩
      have hr6 := blk_keep hr5 hbp
      have hb6 := below_base hb5 hb5.size hbp
      rw [hPP.out]
      obtain ⟨Y, hY⟩ : ∃ Y, Y = str (bodyOf ((ents l n).take (n / 2))) := ⟨_, rfl⟩
      rw [← hY]
      have HY := Lib.hid hY
      have c6 := blk_cell hr6
      have c6f := blk_free hr6
      have z6 := lt_of_block hr6
      clear hY hint hr5 hb5 hbp f1 f2 f3 f4 f5 f6 c0 c0f c1 c2 c2f z0 z1 z2 Hpa hPP
      go_wp2
      have hW : (set4 w5 (w.heap.size + 1) (.int .i64 k) (.int .i64 (d - 1)) (.int .i64 x) (.string Y)).heap[w.heap.size + 1]? = _ := set4_same hr6 (.int .i64 k) (.int .i64 (d - 1)) (.int .i64 x) (.string Y)
      have hB := below_set4 hb6 (show w.heap.size ≤ w.heap.size + 1 by omega) (.int .i64 k) (.int .i64 (d - 1)) (.int .i64 x) (.string Y)
      change bodyPost _ _ _ _ _ (set4 w5 (w.heap.size + 1) (.int .i64 k) (.int .i64 (d - 1)) (.int .i64 x) (.string Y))
      generalize set4 w5 (w.heap.size + 1) (.int .i64 k) (.int .i64 (d - 1)) (.int .i64 x) (.string Y) = WF at *
      have j0 := blk_cell hW 0
      have j1 := blk_cell hW 1
      have j2 := blk_cell hW 2
      have j3 := blk_cell hW 3
      clear hW c6 c6f
      refine bodyPost_ret (v := .tuple #[.agg #[.int .i64 k, .int .i64 (d - 1), .int .i64 x, .string Y], .int .i64 0]) ?_ rfl (⟨.inr (.inr ⟨n, Hd.out, heven.out, by rw [HY.out]⟩), hB⟩)
      simp [results, Tryz.results226, go_sem, j0, j1, j2, j3]
 · have Hno := Lib.hid hno
   have hrb := (blk2_below hb).2
   have hbw := below_box (below_box hb)
   have hcr := blk_cell hrb
   have hfr := blk_free hrb
   have hlr := lt_of_block hrb
   clear hno
   go_wp2
   have hW : (((set4 w1 (w.heap.size + 1) (.int .i64 0) (.int .i64 0) (.int .i64 0) (.string ⟨#[]⟩)).alloc (.cells #[.slice none 0 0, .int .i64 0] 248))).heap[w.heap.size + 1]? = some (.cells #[.int .i64 0, .int .i64 0, .int .i64 0, .string ⟨#[]⟩] 113 (0, 0)) := hal (set4_same hrb _ _ _ _)
   have hB : Below w.heap.size w (((set4 w1 (w.heap.size + 1) (.int .i64 0) (.int .i64 0) (.int .i64 0) (.string ⟨#[]⟩)).alloc (.cells #[.slice none 0 0, .int .i64 0] 248))) := below_al (below_set4 hbw (show w.heap.size ≤ w.heap.size + 1 by omega) _ _ _ _) _
   change bodyPost _ _ _ _ _ (((set4 w1 (w.heap.size + 1) (.int .i64 0) (.int .i64 0) (.int .i64 0) (.string ⟨#[]⟩)).alloc (.cells #[.slice none 0 0, .int .i64 0] 248)))
   generalize ((set4 w1 (w.heap.size + 1) (.int .i64 0) (.int .i64 0) (.int .i64 0) (.string ⟨#[]⟩)).alloc (.cells #[.slice none 0 0, .int .i64 0] 248)) = WF at *
   have j0 := blk_cell hW 0
   have j1 := blk_cell hW 1
   have j2 := blk_cell hW 2
   have j3 := blk_cell hW 3
   clear hW hcr hfr
   refine bodyPost_ret (v := .tuple #[.agg #[.int .i64 0, .int .i64 0, .int .i64 0, .string ⟨#[]⟩], .int .i64 2]) ?_ rfl ⟨.inl ⟨Hno.out, rfl⟩, hB⟩
   simp [results, Tryz.results226, go_sem, j0, j1, j2, j3]
end Go.Proofs.YtijhamllnnilbaaGreatDoor.Dr
namespace Go.Proofs.YtijhamllnnilbaaGreatDoor.Dr
open Go.RowKit Go.Proofs.YtijhamllnnilbaaGreatDoor.Mem Go.Proofs.YtijhamllnnilbaaGreatDoor.Pg

set_option maxRecDepth 100000 in
set_option maxHeartbeats 4000000 in
theorem setOne_any (eb g n cap i : Nat) (v u : Int) (w : World) (h0 : w.cell? ⟨eb, 0, none⟩ = some (.slice (some ⟨g, 0, none⟩) n cap)) (h1 : w.cell? ⟨eb, 1, none⟩ = some (.int .i64 v)) (hi : i < n) (hn : n ≤ 1000)
 (hc : w.cell? ⟨g, i, none⟩ = some (.int .i64 u)) (hf : w.frozen? ⟨g, i, none⟩ = false) (hne : g ≠ eb) :
 Calls Tryz.prog 199 #[.pointer (some ⟨eb, 0, none⟩), .int .i64 i] w fun e w' => e = .returned (.tuple #[]) ∧ w' = (w.setCell ⟨g, i, none⟩ (.int .i64 v)).drew := by
 have i1 : (i : Int) < (n : Int) := by omega
 go_enter Tryz.func199, Tryz.ntmps199
 go_wp2_with fail
 refine wp_region_held_drew (S := fun w' => w'.cell? ⟨eb, 0, none⟩ = some (.slice (some ⟨g, 0, none⟩) n cap) ∧ w'.cell? ⟨eb, 1, none⟩ = some (.int .i64 v)) (by kernel_rfl) (⟨h0, h1⟩) (fun hHeld => ?_)
 refine wpAnyH_take (i := 0) (v := ?_) rfl (by kernel_rfl) (by kernel_rfl) (by kernel_rfl) (fun _ _ _ h => h) (Or.inl ⟨by rfl, ?_⟩) hHeld ?_
 rotate_left
 · intro wq hSw
   try dsimp only at hSw
   go_simp
   try rw [if_neg (by omega)]
   try rw [if_pos (by omega)]
   try with_reducible rfl
 try simp only [Act.put, List.setIfInBounds_toArray, List.set_cons_zero, List.set_cons_succ]
 refine wpAnyH_take (i := 1) (v := ?_) rfl (by kernel_rfl) (by kernel_rfl) (by kernel_rfl) (fun _ _ _ h => h) (Or.inl ⟨by rfl, ?_⟩) hHeld ?_
 rotate_left
 · intro wq hSw
   try dsimp only at hSw
   go_simp
   try rw [if_neg (by omega)]
   try rw [if_pos (by omega)]
   try with_reducible rfl
 try simp only [Act.put, List.setIfInBounds_toArray, List.set_cons_zero, List.set_cons_succ]
 refine wpAnyH_take (i := 2) (v := ?_) rfl (by kernel_rfl) (by kernel_rfl) (by kernel_rfl) (fun _ _ _ h => h) (Or.inl ⟨by rfl, ?_⟩) hHeld ?_
 rotate_left
 · intro wq hSw
   try dsimp only at hSw
   go_simp
   try rw [if_neg (by omega)]
   try rw [if_pos (by omega)]
   try with_reducible rfl
 try simp only [Act.put, List.setIfInBounds_toArray, List.set_cons_zero, List.set_cons_succ]
 refine wpAnyH_take (i := 3) (v := ?_) rfl (by kernel_rfl) (by kernel_rfl) (by kernel_rfl) (fun _ _ _ h => h) (Or.inl ⟨by rfl, ?_⟩) hHeld ?_
 rotate_left
 · intro wq hSw
   try dsimp only at hSw
   go_simp
   try rw [if_neg (by omega)]
   try rw [if_pos (by omega)]
   try with_reducible rfl
 try simp only [Act.put, List.setIfInBounds_toArray, List.set_cons_zero, List.set_cons_succ]
 refine wpAnyH_take (i := 4) (v := ?_) rfl (by kernel_rfl) (by kernel_rfl) (by kernel_rfl) (fun _ _ _ h => h) (Or.inl ⟨by rfl, ?_⟩) hHeld ?_
 rotate_left
 · intro wq hSw
   try dsimp only at hSw
   go_simp
   try rw [if_neg (by omega)]
   try rw [if_pos (by omega)]
   try with_reducible rfl
 try simp only [Act.put, List.setIfInBounds_toArray, List.set_cons_zero, List.set_cons_succ]
 refine wpAnyH_take (i := 5) (v := ?_) rfl (by kernel_rfl) (by kernel_rfl) (by kernel_rfl) (fun _ _ _ h => h) (Or.inl ⟨by rfl, ?_⟩) hHeld ?_
 rotate_left
 · intro wq hSw
   try dsimp only at hSw
   go_simp
   try rw [if_neg (by omega)]
   try rw [if_pos (by omega)]
   try with_reducible rfl
 try simp only [Act.put, List.setIfInBounds_toArray, List.set_cons_zero, List.set_cons_succ]
 refine wpAnyH_take (i := 6) (v := ?_) rfl (by kernel_rfl) (by kernel_rfl) (by kernel_rfl) (fun _ _ _ h => h) (Or.inl ⟨by rfl, ?_⟩) hHeld ?_
 rotate_left
 · intro wq hSw
   try dsimp only at hSw
   go_simp
   try rw [if_neg (by omega)]
   try rw [if_pos (by omega)]
   try with_reducible rfl
 try simp only [Act.put, List.setIfInBounds_toArray, List.set_cons_zero, List.set_cons_succ]
 refine wpAnyH_take (i := 7) (v := ?_) rfl (by kernel_rfl) (by kernel_rfl) (by kernel_rfl) (fun _ _ _ h => h) (Or.inl ⟨by rfl, ?_⟩) hHeld ?_
 rotate_left
 · intro wq hSw
   try dsimp only at hSw
   go_simp
   try rw [if_neg (by omega)]
   try rw [if_pos (by omega)]
   try with_reducible rfl
 try simp only [Act.put, List.setIfInBounds_toArray, List.set_cons_zero, List.set_cons_succ]
 refine wpAnyH_take (i := 8) (v := ?_) rfl (by kernel_rfl) (by kernel_rfl) (by kernel_rfl) (fun _ _ _ h => h) (Or.inl ⟨by rfl, ?_⟩) hHeld ?_
 rotate_left
 · intro wq hSw
   try dsimp only at hSw
   go_simp
   try rw [if_neg (by omega)]
   try rw [if_pos (by omega)]
   try with_reducible rfl
 try simp only [Act.put, List.setIfInBounds_toArray, List.set_cons_zero, List.set_cons_succ]
 refine wpAnyH_take (i := 9) (v := ?_) rfl (by kernel_rfl) (by kernel_rfl) (by kernel_rfl) (fun _ _ _ h => h) (Or.inl ⟨by rfl, ?_⟩) hHeld ?_
 rotate_left
 · intro wq hSw
   try dsimp only at hSw
   go_simp
   try rw [if_neg (by omega)]
   try rw [if_pos (by omega)]
   try with_reducible rfl
 try simp only [Act.put, List.setIfInBounds_toArray, List.set_cons_zero, List.set_cons_succ]
 refine wpAnyH_ready (rs := [10]) (by kernel_rfl) (by simp) ?_
 refine AllReadyH.cons rfl (fun K hK => ?_) AllReadyH.nil
 go_simp
 refine hK.out _ _ (⟨(World.cell?_setCell_other _ _ _ _ (fun e => by injection e with e1; omega)).trans hHeld.1, (World.cell?_setCell_other _ _ _ _ (fun e => by injection e with e1; omega)).trans hHeld.2⟩) (fun hHeld2 => ?_)
 clear hK K
 try clear hHeld
 have hHeld := hHeld2
 try clear hHeld2
 refine wpAnyH_done (by kernel_rfl) ?_ _
 go_end0
 exact ⟨rfl, rfl⟩
end Go.Proofs.YtijhamllnnilbaaGreatDoor.Dr
