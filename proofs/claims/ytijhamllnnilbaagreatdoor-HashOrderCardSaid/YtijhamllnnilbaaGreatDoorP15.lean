/- Lemmas of the claim, in their order:
- The contracts of space.Take, space.Free.
- The contract of space.New.
- Plain mathematics of chapter 9: what a map is, byte by byte. No program in sight.
-/
import Derived.Test.YtijhamllnnilbaaGreatDoorP09
import Derived.Deep.RegionHeld
set_option linter.unusedVariables false
set_option linter.unusedSimpArgs false
namespace Go.Proofs.YtijhamllnnilbaaGreatDoor.Sp
open Go.RowKit Go.Proofs.YtijhamllnnilbaaGreatDoor.Mem Go.Proofs.YtijhamllnnilbaaGreatDoor.Pg

theorem cut_take (l : List UInt8) (n : Nat) : (str l).extract 0 n = str (l.take n) := by
 apply ByteArray.ext
 apply Array.toList_inj.1
 simp [ByteArray.data_extract]
def takeI (k : Int) (l : List UInt8) : Int := Lib.indexByte (l.take (pagesF k l)) 2
theorem pagesF_le_len (k : Int) (l : List UInt8) : pagesF k l ≤ l.length := by
 by_cases h : pagesF k l = 0
 · omega
 · have := pagesF_len k l h
   have := pagesF_le k l
   omega

set_option maxRecDepth 100000 in
theorem take_disk (k d x : Int) (l : List UInt8) (w : World) (hl : l.length ≤ 1000000) (hp : pagesF k l ≠ 0) (hi : takeI k l < 0) :
 Calls Tryz.prog 84 #[.agg #[.int .i64 k, .int .i64 d, .int .i64 x, .string (str l)]] w fun e w' =>
  e = .returned (.tuple #[.agg #[.int .i64 0, .int .i64 0, .int .i64 0, .string ⟨#[]⟩], .int .i64 0, .int .i64 6]) ∧ Below w.heap.size w w' := by
 have hpg := fun w => pages_any k d x l w hl
 have hix : ∀ w, Calls Tryz.prog 165 #[.string ((str l).extract 0 (pagesF k l)), .int .u8 2] w fun e w' => e = .returned (.int .i64 (takeI k l)) ∧ w' = w := fun w => by
  rw [cut_take]; exact Tryz.strings_IndexByte (str (l.take (pagesF k l))) 2 w
 have hle : pagesF k l ≤ (str l).size := by rw [str_size]; exact pagesF_le_len k l
 have h64 := pagesF_le k l
 generalize hs : str l = s at hpg hix hle ⊢
 clear hs
 have hp' : ((pagesF k l : Int) == 0) = false := by simp; exact hp
 have di : decide (takeI k l < 0) = true := by simpa using hi
 have hpos : (0 : Int) ≤ (pagesF k l : Int) := by omega
 have hle' : (pagesF k l : Int) ≤ (s.size : Int) := by omega
 go_enter Tryz.func84, Tryz.ntmps84
 go_wp2_with fail
 refine (hpg _).mono ?_
 rintro e w1 ⟨rfl, hb1⟩
 have blk1 := blk2_below hb1
 have hbw1 := below_tr (below_al (below_al (Below.refl _ w) _) _) hb1
 have hc1 := blk_cell blk1.1
 have hf1 := blk_free blk1.1
 have hsz1 := lt_of_block blk1.1
 have hd1 := blk_cell blk1.2
 have hg1 := blk_free blk1.2
 have hsy1 := lt_of_block blk1.2
 clear hb1
 clear hpg
 go_wp2_with fail
 refine (hix _).mono ?_
 rintro e w2 ⟨rfl, rfl⟩
 go_wp2
 refine bodyPost_ret (v := .tuple #[.agg #[.int .i64 0, .int .i64 0, .int .i64 0, .string ⟨#[]⟩], .int .i64 0, .int .i64 6]) (by simp [results, Tryz.results84, go_sem, hd1]) rfl ⟨rfl, ?_⟩
 exact below_set (below_set (below_set (below_set hbw1 (Nat.le_succ _)) (Nat.le_succ _)) (Nat.le_succ _)) (Nat.le_succ _)

set_option maxRecDepth 100000 in
theorem take_ok (k d x : Int) (l : List UInt8) (w : World) (hl : l.length ≤ 1000) (i : Nat) (hi : takeI k l = i) (hp : i < pagesF k l) :
 Calls Tryz.prog 84 #[.agg #[.int .i64 k, .int .i64 d, .int .i64 x, .string (str l)]] w fun e w' =>
  e = .returned (.tuple #[.agg #[.int .i64 k, .int .i64 d, .int .i64 x, .string (str (l.set i 1))], .int .i64 i, .int .i64 0]) ∧ Below w.heap.size w w' := by
 have hpg := fun w => pages_any k d x l w (by omega)
 have hix : ∀ w, Calls Tryz.prog 165 #[.string ((str l).extract 0 (pagesF k l)), .int .u8 2] w fun e w' => e = .returned (.int .i64 (takeI k l)) ∧ w' = w := fun w => by
  rw [cut_take]; exact Tryz.strings_IndexByte (str (l.take (pagesF k l))) 2 w
 have hle : pagesF k l ≤ (str l).size := by rw [str_size]; exact pagesF_le_len k l
 have h64 := pagesF_le k l
 have hst : ∀ w, Calls Tryz.prog 159 #[.agg #[.int .i64 k, .int .i64 d, .int .i64 x, .string (str l)], .int .i64 i, .int .u8 1] w fun e w' => e = .returned (.agg #[.int .i64 k, .int .i64 d, .int .i64 x, .string (str (l.set i 1))]) ∧ Below w.heap.size w w' := fun w => set_any k d x l i 1 w (by rw [str_size] at hle; omega) hl
 rw [hi] at hix
 generalize hs : str l = s at hpg hix hle hst ⊢
 generalize hs2 : str (l.set i 1) = s2 at hst ⊢
 clear hs hs2
 have hp' : ((pagesF k l : Int) == 0) = false := by simp; omega
 have di : decide ((i : Int) < 0) = false := by simp
 have hpos : (0 : Int) ≤ (pagesF k l : Int) := by omega
 have hle' : (pagesF k l : Int) ≤ (s.size : Int) := by omega
 clear hi
 go_enter Tryz.func84, Tryz.ntmps84
 go_wp2_with fail
 refine (hpg _).mono ?_
 rintro e w1 ⟨rfl, hb1⟩
 have blk1 := blk2_below hb1
 have hbw1 := below_tr (below_al (below_al (Below.refl _ w) _) _) hb1
 have hc1 := blk_cell blk1.1
 have hf1 := blk_free blk1.1
 have hsz1 := lt_of_block blk1.1
 have hd1 := blk_cell blk1.2
 have hg1 := blk_free blk1.2
 have hsy1 := lt_of_block blk1.2
 clear hb1
 clear hpg
 go_wp2_with fail
 refine (hix _).mono ?_
 rintro e w2 ⟨rfl, rfl⟩
 go_wp2_with fail
 refine (hst _).mono ?_
 rintro e w2 ⟨rfl, hb2⟩
 have blk2 : w2.heap[w.heap.size]? = _ ∧ w2.heap[w.heap.size + 1]? = _ := ⟨blk_keep blk1.1 hb2, blk_keep blk1.2 hb2⟩
 have hbw2 := below_tr hbw1 hb2
 clear hc1 hf1 hsz1 hd1 hg1 hsy1 hbw1 blk1
 have hc2 := blk_cell blk2.1
 have hf2 := blk_free blk2.1
 have hsz2 := lt_of_block blk2.1
 have hd2 := blk_cell blk2.2
 have hg2 := blk_free blk2.2
 have hsy2 := lt_of_block blk2.2
 clear hb2
 go_wp2
 refine bodyPost_ret (v := .tuple #[.agg #[.int .i64 k, .int .i64 d, .int .i64 x, .string s2], .int .i64 i, .int .i64 0]) (by simp [results, Tryz.results84, go_sem, hd2]) rfl ⟨rfl, ?_⟩
 exact below_set (below_set (below_set (below_set hbw2 (Nat.le_succ _)) (Nat.le_succ _)) (Nat.le_succ _)) (Nat.le_succ _)

set_option maxRecDepth 100000 in
set_option maxHeartbeats 4000000 in
theorem free_any (k d x : Int) (l : List UInt8) (w : World) (hl : l.length ≤ 1000000) :
 Calls Tryz.prog 79 #[.agg #[.int .i64 k, .int .i64 d, .int .i64 x, .string (str l)]] w fun e w' =>
  e = .returned (.int .i64 ((l.take (pagesF k l)).count 2 : Nat)) ∧ Below w.heap.size w w' := by
 have hpg := fun w => pages_any k d x l w hl
 have hct : ∀ w, Calls Tryz.prog 160 #[.string ((str l).extract 0 (pagesF k l)), .string ⟨#[2]⟩] w fun e w' => e = .returned (.int .i64 ((l.take (pagesF k l)).count 2 : Nat)) ∧ w' = w := fun w => by
  rw [cut_take]; exact Tryz.strings_Count_one (str (l.take (pagesF k l))) 2 w
 have hle : pagesF k l ≤ (str l).size := by rw [str_size]; exact pagesF_le_len k l
 have h64 := pagesF_le k l
 have hcv := fun W g c => conv_one W g c 2
 generalize hs : str l = s at hpg hct hle ⊢
 clear hs
 have hpos : (0 : Int) ≤ (pagesF k l : Int) := by omega
 have hle' : (pagesF k l : Int) ≤ (s.size : Int) := by omega
 have hpg' : ∀ W : World, Below w.heap.size w W → w.heap.size < W.heap.size → Calls Tryz.prog 67 #[.agg #[.int .i64 k, .int .i64 d, .int .i64 x, .string s]] W fun e w' => e = .returned (.int .i64 (pagesF k l)) ∧ Below w.heap.size w w' ∧ w.heap.size < w'.heap.size ∧ W.heap.size ≤ w'.heap.size ∧ (∀ b j, b < W.heap.size → w'.cell? ⟨b, j, none⟩ = W.cell? ⟨b, j, none⟩) := fun W hW hl => (hpg W).mono (fun e w' h => ⟨h.1, below_base hW (by omega) h.2, Nat.lt_of_lt_of_le hl h.2.size, h.2.size, fun b j hlt => h.2.cell (p := ⟨b, j, none⟩) hlt⟩)
 go_enter Tryz.func79, Tryz.ntmps79
 go_wp2_with fail
 have hbw0 : Below w.heap.size w (w.alloc (.cells #[.int .i64 k, .int .i64 d, .int .i64 x, .string s] 113)) := below_al (Below.refl _ w) _
 have hst : w.heap.size < (w.alloc (.cells #[.int .i64 k, .int .i64 d, .int .i64 x, .string s] 113)).heap.size := by simp
 go_region_held (fun w' => Below w.heap.size w w' ∧ w.heap.size < w'.heap.size ∧ w'.cell? ⟨w.heap.size, 0, none⟩ = some (.int .i64 k) ∧ w'.cell? ⟨w.heap.size, 1, none⟩ = some (.int .i64 d) ∧ w'.cell? ⟨w.heap.size, 2, none⟩ = some (.int .i64 x) ∧ w'.cell? ⟨w.heap.size, 3, none⟩ = some (.string s))
  (simp [*, World.cell?_alloc_some, below_al, below_dr, Nat.lt_succ_of_lt])
  (first
   | (go_at_call 67; refine (hpg' _ (by simp [*]) (by simp [*, Nat.lt_succ_of_lt])).mono ?_; rintro e w' ⟨rfl, hb, hl1, hl2, hcc⟩)
   | (go_at_call 160; refine (hct _).mono ?_; rintro e w' ⟨rfl, rfl⟩))
 all_goals
  rename_i hH
  clear hcv hct hpg hpg'
  go_wp2
  go_ret
  exact ⟨rfl, hH.1⟩
end Go.Proofs.YtijhamllnnilbaaGreatDoor.Sp
namespace Go.Proofs.YtijhamllnnilbaaGreatDoor.Sp
open Go.RowKit Go.Proofs.YtijhamllnnilbaaGreatDoor.Mem Go.Proofs.YtijhamllnnilbaaGreatDoor.Pg

def newL : Nat → List UInt8
 | 0 => zs 240
 | n + 1 => if n < 2 then ((newL n).set n 2).set n 1 else (newL n).set n 2
theorem newL_len (n : Nat) : (newL n).length = 240 := by
 induction n with
 | zero => exact List.length_replicate
 | succ n ih => rw [newL]; split <;> simp [ih]

set_option maxRecDepth 100000 in
theorem new_ok (n : Nat) (w : World) (h8 : 8 ≤ n) (h64 : n ≤ 64) :
 Calls Tryz.prog 82 #[.int .i64 n] w fun e w' =>
  e = .returned (.tuple #[.agg #[.int .i64 2, .int .i64 0, .int .i64 0, .string (str (newL n))], .bool true]) ∧ Below w.heap.size w w' := by
 have d8 : decide ((n : Int) < 8) = false := by simp; omega
 have d64 : decide ((64 : Int) < n) = false := by simp; omega
 have hem := fun w => empty_any 2 0 w
 have hs1 : ∀ i, i < n → ∀ w, Calls Tryz.prog 159 #[.agg #[.int .i64 2, .int .i64 0, .int .i64 0, .string (str (newL i))], .int .i64 i, .int .u8 2] w fun e w' => e = .returned (.agg #[.int .i64 2, .int .i64 0, .int .i64 0, .string (str ((newL i).set i 2))]) ∧ Below w.heap.size w w' :=
  fun i hi w => set_any 2 0 0 (newL i) i 2 w (by rw [newL_len]; omega) (by rw [newL_len]; omega)
 have hs2 : ∀ i, i < 2 → ∀ w, Calls Tryz.prog 159 #[.agg #[.int .i64 2, .int .i64 0, .int .i64 0, .string (str ((newL i).set i 2))], .int .i64 i, .int .u8 1] w fun e w' => e = .returned (.agg #[.int .i64 2, .int .i64 0, .int .i64 0, .string (str (newL (i + 1)))]) ∧ Below w.heap.size w w' :=
  fun i hi w => (set_any 2 0 0 ((newL i).set i 2) i 1 w (by rw [List.length_set, newL_len]; omega) (by rw [List.length_set, newL_len]; omega)).mono (fun e w' h => by rw [newL, if_pos hi]; exact h)
 have hs3 : ∀ i, ¬ i < 2 → str ((newL i).set i 2) = str (newL (i + 1)) := fun i hi => by rw [newL, if_neg hi]
 have h0 : str (zs 240) = str (newL 0) := rfl
 rw [h0] at hem
 generalize hF : (fun i => str (newL i)) = F
 generalize hG : (fun i => str ((newL i).set i 2)) = G
 have hF' : ∀ i, str (newL i) = F i := fun i => by rw [← hF]
 have hG' : ∀ i, str ((newL i).set i 2) = G i := fun i => by rw [← hG]
 simp only [hF', hG'] at hem hs1 hs2 hs3 ⊢
 clear hF hG hF' hG' h0
 have Hs3 := Lib.hid hs3
 clear hs3
 go_enter Tryz.func82, Tryz.ntmps82
 go_wp2_with fail
 refine (hem _).mono ?_
 rintro e w1 ⟨rfl, hb1⟩
 have blk1 := blk_below hb1
 have hc1 := blk_cell blk1
 have hf1 := blk_free blk1
 have hz1 := lt_of_block blk1
 have hbw1 := below_tr (below_al (Below.refl _ w) _) hb1
 clear hb1
 go_wp2_with fail
 go_loopw [15] (fun i wr => ∃ j : Nat, i = .int .i64 j ∧ j ≤ n ∧ Below w.heap.size w wr ∧ wr.heap[w.heap.size]? = some (.cells #[.int .i64 0, .int .i64 0, .int .i64 0, .string ⟨#[]⟩] 113 (0, 0)) ∧ wr.heap[w1.heap.size]? = some (.cells #[.int .i64 2, .int .i64 0, .int .i64 0, .string (F j)] 113 (0, 0))) (fun i _ => n - (intOf i).toNat)
 case atStart => exact ⟨0, rfl, Nat.zero_le _, below_al hbw1 _, (heap_alloc_old _ _ hz1).trans blk1, heap_alloc_new _ _⟩
 case round =>
  obtain ⟨j, rfl, hj, hbel, hres, hpag⟩ := hrel
  have hcr := blk_cell hres
  have hfr := blk_free hres
  have hzr := lt_of_block hres
  have hcp := blk_cell hpag
  have hfp := blk_free hpag
  have hzp := lt_of_block hpag
  by_cases hlt : j < n
  · have hs1j := hs1 j hlt
    go_wp2_with fail
    refine (hs1j _).mono ?_
    rintro e w2 ⟨rfl, hb2⟩
    have hpag2 := blk_keep hpag hb2
    have hres2 := blk_keep hres hb2
    have hbel2 := below_tr hbel hb2
    clear hcp hfp hzp hcr hfr hzr hpag hres hbel hs1j hb2
    have hcp2 := blk_cell hpag2
    have hfp2 := blk_free hpag2
    have hzp2 := lt_of_block hpag2
    by_cases h2 : j < 2
    · have d2 : decide ((j : Int) < 2) = true := by simp; omega
      have hs2j := hs2 j h2
      go_wp2_with fail
      have hst : (set4 w2 w1.heap.size (.int .i64 2) (.int .i64 0) (.int .i64 0) (.string (G j))).heap[w1.heap.size]? = _ := set4_same hpag2 _ _ _ _
      have hsr : (set4 w2 w1.heap.size (.int .i64 2) (.int .i64 0) (.int .i64 0) (.string (G j))).heap[w.heap.size]? = _ := (set4_other w2 (Nat.ne_of_lt hz1) _ _ _ _).trans hres2
      have hsb := below_set4 hbel2 (Nat.le_of_lt hz1) (.int .i64 2) (.int .i64 0) (.int .i64 0) (.string (G j))
      refine (hs2j _).mono ?_
      rintro e w3 ⟨rfl, hb3⟩
      have hpag3 := blk_keep hst hb3
      have hres3 := blk_keep hsr hb3
      have hbel3 := below_tr hsb hb3
      clear hcp2 hfp2 hzp2 hpag2 hres2 hbel2 hs2j hb3 hst hsr hsb
      have hcp3 := blk_cell hpag3
      have hfp3 := blk_free hpag3
      have hzp3 := lt_of_block hpag3
      go_wp2
      go_roundw
      case rel => exact ⟨j + 1, by go_num, by omega, below_set4 hbel3 (Nat.le_of_lt hz1) _ _ _ _, (set4_other w3 (Nat.ne_of_lt hz1) _ _ _ _).trans hres3, set4_same hpag3 _ _ _ _⟩
      case measure => simp [intOf]; omega
    · have d2 : decide ((j : Int) < 2) = false := by simp; omega
      go_wp2
      go_roundw
      case rel => exact ⟨j + 1, by go_num, by omega, below_set4 hbel2 (Nat.le_of_lt hz1) _ _ _ _, (set4_other w2 (Nat.ne_of_lt hz1) _ _ _ _).trans hres2, by rw [← Hs3.out j h2]; exact set4_same hpag2 _ _ _ _⟩
      case measure => simp [intOf]; omega
  · obtain rfl : j = n := by omega
    go_wp2
    refine bodyPost_ret (v := .tuple #[.agg #[.int .i64 2, .int .i64 0, .int .i64 0, .string (F j)], .bool true]) (by simp [results, Tryz.results82, go_sem, hcr]) rfl ⟨rfl, below_set4 hbel (Nat.le_refl _) _ _ _ _⟩
end Go.Proofs.YtijhamllnnilbaaGreatDoor.Sp
namespace Go.Proofs.YtijhamllnnilbaaGreatDoor.Sp
open Go.RowKit Go.Proofs.YtijhamllnnilbaaGreatDoor.Mem Go.Proofs.YtijhamllnnilbaaGreatDoor.Pg

theorem bt_get (l : List UInt8) (i : Nat) (h : i < l.length) : bt l i = (l[i].toNat : Int) := (bt_eq l i h l[i]).2 rfl
theorem bt_set (l : List UInt8) (i : Nat) (b : UInt8) (h : i < l.length) (j : Nat) : bt (l.set i b) j = if i = j then (b.toNat : Int) else bt l j := by
 unfold bt
 rw [List.getD_eq_getElem?_getD, List.getD_eq_getElem?_getD, List.getElem?_set]
 split
 · subst_vars; simp
 · rfl
theorem bt_take (l : List UInt8) (n i : Nat) (h : i < n) : bt (l.take n) i = bt l i := by
 unfold bt
 rw [List.getD_eq_getElem?_getD, List.getD_eq_getElem?_getD, List.getElem?_take_of_lt h]
structure IsMap (n : Nat) (l : List UInt8) : Prop where
 len : l.length = 240
 ge : 8 ≤ n
 le : n ≤ 64
 ok : ∀ i, i < n → bt l i = 1 ∨ bt l i = 2
 past : ∀ i, n ≤ i → bt l i = 0
 b0 : bt l 0 = 1
 b1 : bt l 1 = 1

theorem pagesF_map {n : Nat} {l : List UInt8} (h : IsMap n l) : pagesF 2 l = n := by
 have ht : Lib.trimRightB l 0 = l.take n := by
  apply Lib.trimRightB_take l 0 n (by have := h.len; have := h.le; omega)
  · intro j b hj hb
    have h0 := h.past j hj
    obtain ⟨hl, rfl⟩ := List.getElem?_eq_some_iff.1 hb
    rw [bt_get l j hl] at h0
    exact UInt8.toNat_inj.1 (by simpa using h0)
  · intro b hn hb hb0
    obtain ⟨hl, rfl⟩ := List.getElem?_eq_some_iff.1 hb
    have h1 := h.ok (n - 1) (by omega)
    rw [bt_get l _ hl, hb0] at h1
    simp at h1
 have hlen : (l.take n).length = n := by rw [List.length_take]; have := h.len; have := h.le; omega
 have hg := h.ge
 unfold pagesF
 rw [if_pos ⟨rfl, h.len⟩, ht, hlen, if_pos]
 refine ⟨h.ge, h.le, ?_, ?_, ?_⟩
 · rw [bt_take l n 0 (by omega)]; exact h.b0
 · rw [bt_take l n 1 (by omega)]; exact h.b1
 · rw [← okTo_all, hlen]
   intro j hj
   rw [bt_take l n j hj]
   exact h.ok j hj
theorem IsMap.set {n : Nat} {l : List UInt8} (h : IsMap n l) (i : Nat) (b : UInt8) (h2 : 2 ≤ i) (hi : i < n) (hb : b = 1 ∨ b = 2) : IsMap n (l.set i b) := by
 have hl := h.len
 have hle := h.le
 have hbt := bt_set l i b (by omega)
 refine ⟨by rw [List.length_set]; exact hl, h.ge, hle, ?_, ?_, ?_, ?_⟩
 · intro j hj
   rw [hbt]
   split
   · rcases hb with rfl | rfl
     · left; rfl
     · right; rfl
   · exact h.ok j hj
 · intro j hj
   rw [hbt, if_neg (by omega)]
   exact h.past j hj
 · rw [hbt, if_neg (by omega)]; exact h.b0
 · rw [hbt, if_neg (by omega)]; exact h.b1

theorem bt_newL (n : Nat) (hn : n ≤ 240) (i : Nat) : bt (newL n) i = if i < n then (if i < 2 then 1 else 2) else 0 := by
 induction n with
 | zero =>
  rw [if_neg (by omega)]
  unfold bt
  rw [newL, zs, List.getD_eq_getElem?_getD, List.getElem?_replicate]
  split <;> rfl
 | succ n ih =>
  have hl := newL_len n
  have ih := ih (by omega)
  rw [newL]
  split
  · rw [bt_set _ n 1 (by rw [List.length_set, hl]; omega), bt_set _ n 2 (by rw [hl]; omega), ih]
    split
    · rw [if_pos (by omega), if_pos (by omega)]; rfl
    · by_cases h : i < n
      · rw [if_pos h, if_pos (show i < n + 1 by omega)]
      · rw [if_neg h, if_neg (show ¬ i < n + 1 by omega)]
  · rw [bt_set _ n 2 (by rw [hl]; omega), ih]
    split
    · rw [if_pos (by omega), if_neg (by omega)]; rfl
    · by_cases h : i < n
      · rw [if_pos h, if_pos (show i < n + 1 by omega)]
      · rw [if_neg h, if_neg (show ¬ i < n + 1 by omega)]
theorem isMap_new (n : Nat) (h8 : 8 ≤ n) (h64 : n ≤ 64) : IsMap n (newL n) := by
 have hb := bt_newL n (by omega)
 refine ⟨newL_len n, h8, h64, ?_, ?_, ?_, ?_⟩
 · intro i hi
   rw [hb, if_pos hi]
   split
   · left; rfl
   · right; rfl
 · intro i hi
   rw [hb, if_neg (by omega)]
 · rw [hb, if_pos (by omega), if_pos (by omega)]
 · rw [hb, if_pos (by omega), if_pos (by omega)]

theorem usedF_map {n : Nat} {l : List UInt8} (h : IsMap n l) (i : Int) : usedF 2 l i = true ↔ 0 ≤ i ∧ i < (n : Int) ∧ bt l i.toNat = 1 := by
 rw [usedF_iff, pagesF_map h]
theorem idx_spec (l : List UInt8) (c : UInt8) : (Lib.indexByte l c = -1 ∧ ∀ j : Nat, l[j]? ≠ some c) ∨ ∃ i : Nat, Lib.indexByte l c = i ∧ i < l.length ∧ l[i]? = some c ∧ ∀ j : Nat, j < i → l[j]? ≠ some c := by
 induction l with
 | nil => left; exact ⟨rfl, by simp⟩
 | cons b l ih =>
  unfold Lib.indexByte
  by_cases hb : b = c
  · right
    refine ⟨0, ?_, by simp, by simp [hb], fun j hj => absurd hj (by omega)⟩
    simp [hb]
  · have hb' : (b == c) = false := by simpa using hb
    rcases ih with ⟨h1, h2⟩ | ⟨i, h1, h2, h3, h4⟩
    · left
      rw [h1]
      refine ⟨by simp [hb'], fun j => ?_⟩
      cases j with
      | zero => simpa using hb
      | succ j => simpa using h2 j
    · right
      rw [h1]
      refine ⟨i + 1, ?_, by simpa using h2, by simpa using h3, fun j hj => ?_⟩
      · have : ((i : Int) == -1) = false := by simp
        simp [hb', this]
      · cases j with
        | zero => simpa using hb
        | succ j => simpa using h4 j (by omega)
theorem takeI_map {n : Nat} {l : List UInt8} (h : IsMap n l) :
 (takeI 2 l = -1 ∧ ∀ i, i < n → bt l i = 1) ∨ ∃ i : Nat, takeI 2 l = i ∧ 2 ≤ i ∧ i < n ∧ bt l i = 2 ∧ ∀ j, j < i → bt l j = 1 := by
 unfold takeI
 rw [pagesF_map h]
 have hlen : (l.take n).length = n := by rw [List.length_take]; have := h.len; have := h.le; omega
 have key : ∀ j, j < n → ((l.take n)[j]? = some 2 ↔ bt l j = 2) := fun j hj => by
  have hl : j < (l.take n).length := by omega
  rw [← bt_take l n j hj]
  rw [List.getElem?_eq_getElem hl, Option.some.injEq]
  exact (bt_eq _ j hl 2).symm
 rcases idx_spec (l.take n) 2 with ⟨h1, h2⟩ | ⟨i, h1, h2, h3, h4⟩
 · left
   refine ⟨h1, fun i hi => ?_⟩
   rcases h.ok i hi with h5 | h5
   · exact h5
   · exact absurd ((key i hi).2 h5) (h2 i)
 · right
   rw [hlen] at h2
   have h5 := (key i h2).1 h3
   refine ⟨i, h1, ?_, h2, h5, fun j hj => ?_⟩
   · rcases Nat.lt_or_ge i 2 with h6 | h6
     · match i, h6 with
       | 0, _ => rw [h.b0] at h5; simp at h5
       | 1, _ => rw [h.b1] at h5; simp at h5
     · exact h6
   · rcases h.ok j (by omega) with h6 | h6
     · exact h6
     · exact absurd ((key j (by omega)).2 h6) (h4 j hj)
end Go.Proofs.YtijhamllnnilbaaGreatDoor.Sp
