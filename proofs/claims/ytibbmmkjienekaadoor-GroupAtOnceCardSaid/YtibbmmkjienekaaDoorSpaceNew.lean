/- The contract of space.New. -/
import Derived.Test.YtibbmmkjienekaaDoorSpaceTake
namespace Go.Proofs.YtibbmmkjienekaaDoor.Sp
open Go.RowKit Go.Proofs.YtibbmmkjienekaaDoor.Mem Go.Proofs.YtibbmmkjienekaaDoor.Pg

/-- A new map's bytes behind so many rounds. -/
def newL : Nat → List UInt8
  | 0 => zs 240
  | n + 1 => if n < 2 then ((newL n).set n 2).set n 1 else (newL n).set n 2
theorem newL_len (n : Nat) : (newL n).length = 240 := by
  induction n with
  | zero => exact List.length_replicate
  | succ n ih => rw [newL]; split <;> simp [ih]

set_option maxRecDepth 100000 in
theorem new_no (n : Int) (w : World) (hn : n < 8 ∨ 64 < n) :
    Calls Tryd.prog 23 #[.int .i64 n] w fun e w' =>
      e = .returned (.tuple #[.agg #[.int .i64 0, .int .i64 0, .int .i64 0, .string ⟨#[]⟩], .bool false]) ∧ Below w.heap.size w w' := by
  have hc := blk_cell (heap_alloc_new w (.cells #[.int .i64 0, .int .i64 0, .int .i64 0, .string ⟨#[]⟩] 23))
  by_cases h8 : n < 8
  · have d8 : decide (n < 8) = true := by simpa using h8
    clear hn
    go_enter Tryd.func23, Tryd.ntmps23
    go_wp2
    refine bodyPost_ret (v := .tuple #[.agg #[.int .i64 0, .int .i64 0, .int .i64 0, .string ⟨#[]⟩], .bool false]) (by simp [results, Tryd.results23, go_sem, hc]) rfl ⟨rfl, below_al (Below.refl _ w) _⟩
  · have d8 : decide (n < 8) = false := by simpa using h8
    have d64 : decide (64 < n) = true := by simpa using hn.resolve_left h8
    clear hn
    go_enter Tryd.func23, Tryd.ntmps23
    go_wp2
    refine bodyPost_ret (v := .tuple #[.agg #[.int .i64 0, .int .i64 0, .int .i64 0, .string ⟨#[]⟩], .bool false]) (by simp [results, Tryd.results23, go_sem, hc]) rfl ⟨rfl, below_al (Below.refl _ w) _⟩

set_option maxRecDepth 100000 in
theorem new_ok (n : Nat) (w : World) (h8 : 8 ≤ n) (h64 : n ≤ 64) :
    Calls Tryd.prog 23 #[.int .i64 n] w fun e w' =>
      e = .returned (.tuple #[.agg #[.int .i64 2, .int .i64 0, .int .i64 0, .string (str (newL n))], .bool true]) ∧ Below w.heap.size w w' := by
  have d8 : decide ((n : Int) < 8) = false := by simp; omega
  have d64 : decide ((64 : Int) < n) = false := by simp; omega
  have hem := fun w => empty_any 2 0 w
  have hs1 : ∀ i, i < n → ∀ w, Calls Tryd.prog 35 #[.agg #[.int .i64 2, .int .i64 0, .int .i64 0, .string (str (newL i))], .int .i64 i, .int .u8 2] w fun e w' => e = .returned (.agg #[.int .i64 2, .int .i64 0, .int .i64 0, .string (str ((newL i).set i 2))]) ∧ Below w.heap.size w w' :=
    fun i hi w => set_any 2 0 0 (newL i) i 2 w (by rw [newL_len]; omega) (by rw [newL_len]; omega)
  have hs2 : ∀ i, i < 2 → ∀ w, Calls Tryd.prog 35 #[.agg #[.int .i64 2, .int .i64 0, .int .i64 0, .string (str ((newL i).set i 2))], .int .i64 i, .int .u8 1] w fun e w' => e = .returned (.agg #[.int .i64 2, .int .i64 0, .int .i64 0, .string (str (newL (i + 1)))]) ∧ Below w.heap.size w w' :=
    fun i hi w => (set_any 2 0 0 ((newL i).set i 2) i 1 w (by rw [List.length_set, newL_len]; omega) (by rw [List.length_set, newL_len]; omega)).mono (fun e w' h => by rw [newL, if_pos hi]; exact h)
  have hs3 : ∀ i, ¬ i < 2 → str ((newL i).set i 2) = str (newL (i + 1)) := fun i hi => by rw [newL, if_neg hi]
  have h0 : str (zs 240) = str (newL 0) := rfl
  rw [h0] at hem
  generalize hF : (fun i => str (newL i)) = F
  generalize hG : (fun i => str ((newL i).set i 2)) = G
  have hF' : ∀ i, str (newL i) = F i := fun i => by rw [← hF]
  have hG' : ∀ i, str ((newL i).set i 2) = G i := fun i => by rw [← hG]
  simp only [hF', hG'] at hem hs1 hs2 hs3 ⊢
  clear hF hG hF' hG' h0
  have Hs3 := Lib.hid hs3
  clear hs3
  go_enter Tryd.func23, Tryd.ntmps23
  go_wp2_with fail
  refine (hem _).mono ?_
  rintro e w1 ⟨rfl, hb1⟩
  have blk1 := blk_below hb1
  have hc1 := blk_cell blk1
  have hf1 := blk_free blk1
  have hz1 := lt_of_block blk1
  have hbw1 := below_tr (below_al (Below.refl _ w) _) hb1
  clear hb1
  go_wp2_with fail
  go_loopw [15] (fun i wr => ∃ j : Nat, i = .int .i64 j ∧ j ≤ n ∧ Below w.heap.size w wr ∧ wr.heap[w.heap.size]? = some (.cells #[.int .i64 0, .int .i64 0, .int .i64 0, .string ⟨#[]⟩] 23 (0, 0)) ∧ wr.heap[w1.heap.size]? = some (.cells #[.int .i64 2, .int .i64 0, .int .i64 0, .string (F j)] 23 (0, 0))) (fun i _ => n - (intOf i).toNat)
  case atStart => exact ⟨0, rfl, Nat.zero_le _, below_al hbw1 _, (heap_alloc_old _ _ hz1).trans blk1, heap_alloc_new _ _⟩
  case round =>
    obtain ⟨j, rfl, hj, hbel, hres, hpag⟩ := hrel
    have hcr := blk_cell hres
    have hfr := blk_free hres
    have hzr := lt_of_block hres
    have hcp := blk_cell hpag
    have hfp := blk_free hpag
    have hzp := lt_of_block hpag
    by_cases hlt : j < n
    · have hs1j := hs1 j hlt
      go_wp2_with fail
      refine (hs1j _).mono ?_
      rintro e w2 ⟨rfl, hb2⟩
      have hpag2 := blk_keep hpag hb2
      have hres2 := blk_keep hres hb2
      have hbel2 := below_tr hbel hb2
      clear hcp hfp hzp hcr hfr hzr hpag hres hbel hs1j hb2
      have hcp2 := blk_cell hpag2
      have hfp2 := blk_free hpag2
      have hzp2 := lt_of_block hpag2
      by_cases h2 : j < 2
      · have d2 : decide ((j : Int) < 2) = true := by simp; omega
        have hs2j := hs2 j h2
        go_wp2_with fail
        have hst : (set4 w2 w1.heap.size (.int .i64 2) (.int .i64 0) (.int .i64 0) (.string (G j))).heap[w1.heap.size]? = _ := set4_same hpag2 _ _ _ _
        have hsr : (set4 w2 w1.heap.size (.int .i64 2) (.int .i64 0) (.int .i64 0) (.string (G j))).heap[w.heap.size]? = _ := (set4_other w2 (Nat.ne_of_lt hz1) _ _ _ _).trans hres2
        have hsb := below_set4 hbel2 (Nat.le_of_lt hz1) (.int .i64 2) (.int .i64 0) (.int .i64 0) (.string (G j))
        refine (hs2j _).mono ?_
        rintro e w3 ⟨rfl, hb3⟩
        have hpag3 := blk_keep hst hb3
        have hres3 := blk_keep hsr hb3
        have hbel3 := below_tr hsb hb3
        clear hcp2 hfp2 hzp2 hpag2 hres2 hbel2 hs2j hb3 hst hsr hsb
        have hcp3 := blk_cell hpag3
        have hfp3 := blk_free hpag3
        have hzp3 := lt_of_block hpag3
        go_wp2
        go_roundw
        case rel => exact ⟨j + 1, by go_num, by omega, below_set4 hbel3 (Nat.le_of_lt hz1) _ _ _ _, (set4_other w3 (Nat.ne_of_lt hz1) _ _ _ _).trans hres3, set4_same hpag3 _ _ _ _⟩
        case measure => simp [intOf]; omega
      · have d2 : decide ((j : Int) < 2) = false := by simp; omega
        go_wp2
        go_roundw
        case rel => exact ⟨j + 1, by go_num, by omega, below_set4 hbel2 (Nat.le_of_lt hz1) _ _ _ _, (set4_other w2 (Nat.ne_of_lt hz1) _ _ _ _).trans hres2, by rw [← Hs3.out j h2]; exact set4_same hpag2 _ _ _ _⟩
        case measure => simp [intOf]; omega
    · obtain rfl : j = n := by omega
      go_wp2
      refine bodyPost_ret (v := .tuple #[.agg #[.int .i64 2, .int .i64 0, .int .i64 0, .string (F j)], .bool true]) (by simp [results, Tryd.results23, go_sem, hcr]) rfl ⟨rfl, below_set4 hbel (Nat.le_refl _) _ _ _ _⟩
end Go.Proofs.YtibbmmkjienekaaDoor.Sp
