/- Lemmas of the claim, in their order:
- The contracts of bucket's halves. (Printed by tools/gen_halves.py.)
- A bucket parted in two, in the table. No program in sight.
-/
import Derived.Test.YtijhamllnnilbaaGreatDoorP21
import Derived.Test.YtijhamllnnilbaaGreatDoorP14
import Derived.Test.YtijhamllnnilbaaGreatDoorP22
set_option linter.unusedVariables false
set_option linter.unusedSimpArgs false
namespace Go.Proofs.YtijhamllnnilbaaGreatDoor.Ha
open Go.RowKit Go.Proofs.YtijhamllnnilbaaGreatDoor.Mem Go.Proofs.YtijhamllnnilbaaGreatDoor.Pg Go.Proofs.YtijhamllnnilbaaGreatDoor.Kp Go.Proofs.YtijhamllnnilbaaGreatDoor.Sp Go.Proofs.YtijhamllnnilbaaGreatDoor.Gr
set_option linter.unusedSimpArgs false
set_option linter.unusedVariables false
abbrev hvO (v0 v1 : Value) : Obj := .cells #[v0, v1] 292
set_option maxRecDepth 100000 in
set_option maxHeartbeats 4000000 in
theorem hadd0 (w : World) (base hb : Nat) (v0 v1 : Value) (l : List Cel) (c : Cel) (hh : w.heap[hb]? = some (.cells #[v0, v1] 292 (0, 0))) (ho : w.ownsRow base 33 4 v0 l.length (flatC l)) (hbb : hb < base) (hbs : base ≤ w.heap.size) (hl : l.length ≤ 10000) :
 Calls Tryz.prog 198 #[.pointer (some ⟨hb, 0, none⟩), .int .i64 0, c.v] w fun e w' => e = .returned (.tuple #[]) ∧ ∃ v', w'.heap[hb]? = some (.cells #[v', v1] 292 (0, 0)) ∧
  w'.ownsRow base 33 4 v' (l ++ [c]).length (flatC (l ++ [c])) ∧ Keep (fun j => j = hb ∨ v0.ownBlock = some j) w w' ∧ ∀ g, v'.ownBlock = some g → v0.ownBlock = some g ∨ w.heap.size ≤ g := by
 obtain ⟨i1, hig, hy0, hy1, hy2⟩ := info_parts info_cell
 have hfl : flatC (l ++ [c]) = flatC l ++ [.string (str c.key), .string (str c.val), .int .i64 (c.blob : Nat), .int .i64 (c.size : Nat)] := by simp [flatC, Cel.cells]
 rw [hfl, List.length_append]
 simp only [Cel.v]
 obtain ⟨U1, hU1⟩ : ∃ U, U = str c.key := ⟨_, rfl⟩
 obtain ⟨U2, hU2⟩ : ∃ U, U = str c.val := ⟨_, rfl⟩
 obtain ⟨xb, hxb⟩ : ∃ b : Int, b = (c.blob : Nat) := ⟨_, rfl⟩
 obtain ⟨xz, hxz⟩ : ∃ b : Int, b = (c.size : Nat) := ⟨_, rfl⟩
 rw [← hU1, ← hU2, ← hxb, ← hxz]
 have lh := lt_of_block hh
 have H0 := Lib.hid (hal (o := celO U1 U2 xb xz) hh)
 have Z0 := Lib.hid (heap_alloc_new w (celO U1 U2 xb xz))
 have O0 := Lib.hid (ho.alloc (celO U1 U2 xb xz))
 have HO := Lib.hid ho
 clear hU1 hU2 hxb hxz hfl hh ho
 go_enter Tryz.func198, Tryz.ntmps198
 go_wp2_with fail
 obtain ⟨w1, hw1⟩ : ∃ w1, w1 = w.alloc (celO U1 U2 xb xz) := ⟨_, rfl⟩
 rw [← hw1] at H0 Z0 O0 ⊢
 have K1 : Hid (Keep (fun j => j = hb ∨ v0.ownBlock = some j) w w1) := Lib.hid (hw1 ▸ Keep.of_below (below_al (Below.refl _ w) _))
 have hs1 : w1.heap.size = w.heap.size + 1 := by rw [hw1]; simp
 have Hs1 := Lib.hid hs1
 have N1 : Hid (w1.drew.ownsRow base 33 4 v0 l.length (flatC l)) := Lib.hid O0.out
 clear hw1 hs1
 refine Ra.wp_region_A (S := (Bz w1)) [7, 8, 9] (by kernel_rfl) (below_dr (Below.refl _ _)) (fun hHeld => ?_)
 refine Ra.WT 0 ?_ ?_ ?_
 rotate_left
 · intro wq hSw
   go_simp
   try with_reducible rfl
 try simp only [Act.put, pX]
 refine Ra.WT 1 ?_ ?_ ?_
 rotate_left
 · intro wq hSw
   go_simp
   try with_reducible rfl
 try simp only [Act.put, pX]
 refine Ra.WT 2 ?_ ?_ ?_
 rotate_left
 · intro wq hSw
   go_simp
   try with_reducible rfl
 try simp only [Act.put, pX]
 refine Ra.WT 3 ?_ ?_ ?_
 rotate_left
 · intro wq hSw
   go_simp
   try with_reducible rfl
 try simp only [Act.put, pX]
 refine Ra.WT 4 ?_ ?_ ?_
 rotate_left
 · intro wq hSw
   go_simp
   try with_reducible rfl
 try simp only [Act.put, pX]
 refine Ra.WT 5 ?_ ?_ ?_
 rotate_left
 · intro wq hSw
   go_simp
   try with_reducible rfl
 try simp only [Act.put, pX]
 refine Ra.WT 6 ?_ ?_ ?_
 rotate_left
 · intro wq hSw
   go_simp
   try with_reducible rfl
 try simp only [Act.put, pX]
 refine Ra.WT 11 ?_ ?_ ?_
 rotate_left
 · intro wq hSw
   go_simp
   try with_reducible rfl
 try simp only [Act.put, pX]
 refine Ra.WT 12 ?_ ?_ ?_
 rotate_left
 · intro wq hSw
   go_simp
   try with_reducible rfl
 try simp only [Act.put, pX]
 refine Ra.WA 7 ?_ ?_ hHeld ?_
 rotate_left
 · intro wq hSw
   have hSc := blk_cell (blk_keep H0.out hSw); have hSl := lt_of_block (blk_keep H0.out hSw); have hSd := blk_cell (blk_keep Z0.out hSw); have hSe := lt_of_block (blk_keep Z0.out hSw)
   go_simp
   try with_reducible rfl
 try simp only [Act.put, pX]
 refine Ra.WA 8 ?_ ?_ hHeld ?_
 rotate_left
 · intro wq hSw
   have hSc := blk_cell (blk_keep H0.out hSw); have hSl := lt_of_block (blk_keep H0.out hSw); have hSd := blk_cell (blk_keep Z0.out hSw); have hSe := lt_of_block (blk_keep Z0.out hSw)
   go_simp
   try with_reducible rfl
 try simp only [Act.put, pX]
 refine Ra.wpA_ready (rs := [9]) (by kernel_rfl) (by simp) ?_
 refine Ra.AllReadyA.cons rfl (fun K hK => ?_) Ra.AllReadyA.nil
 rw [if_pos (by kernel_rfl)]
 go_simp
 skip
 refine hK.out _ _ (below_al hHeld _) (fun hHeld2 => ?_)
 clear hK K
 try clear hHeld
 have hHeld := hHeld2
 try clear hHeld2
 refine Ra.wpA_ready (rs := [10]) (by kernel_rfl) (by simp) ?_
 refine Ra.AllReadyA.late rfl rfl (fun K hK => ?_) Ra.AllReadyA.nil
 refine step_append_lies _ rfl _ _ _ rfl base 33 i1 (.agg #[.string ⟨#[]⟩, .string ⟨#[]⟩, .int .i64 0, .int .i64 0]) 4 48 Tryz.underlying142 hig hy0 hy1 hy2 rfl (by decide) v0 l.length _ rfl (N1.out.alloc _) ⟨w1.heap.size, 0, none⟩ 1 1 [.string U1, .string U2, .int .i64 xb, .int .i64 xz] rfl rfl (cells_blk (heap_alloc_new w1.drew (celO U1 U2 xb xz))) (by intro u hu; simp at hu; rcases hu with rfl | rfl | rfl | rfl <;> rfl) (by omega) (by unfold maxLen; omega) (by omega) (by have := Hs1.out; simp; omega) _ rfl ?_
 intro g2 c2 w6 ho2 hg2 hat2 hl2
 have k9 := Keep.grown (S := fun k => v0.ownBlock = some k) hg2 (fun j h => h)
 have HP6 := Lib.hid ho2
 have HG6 : Hid (∀ g, g = g2 → v0.ownBlock = some g ∨ w.heap.size ≤ g) := Lib.hid (fun g e => by (subst e; rcases hat2 with h1 | h1; exact .inl h1; exact .inr (by have h2 := h1; have := Hs1.out; simp at h2; omega)))
 have ch6 := k9.blk (hal (o := celO U1 U2 xb xz) (show w1.drew.heap[hb]? = _ from H0.out)) (fun e => by have := own_base HO.out _ e; omega)
 have K6 : Hid (Keep (fun j => j = hb ∨ v0.ownBlock = some j) w w6) := Lib.hid ((K1.out.below (below_al (below_dr (Below.refl _ w1)) (celO U1 U2 xb xz))).trans (k9.mono (fun j h => .inr h)))
 have cc6 := blk_cell ch6
 have fc6 := blk_free ch6
 have lc6 := lt_of_block ch6
 clear ho2 hg2 hat2 k9
 refine hK.out _ _ (trivial) (fun hHeld2 => ?_)
 clear hK K
 try clear hHeld
 have hHeld := hHeld2
 try clear hHeld2
 refine Ra.WT 13 ?_ ?_ ?_
 rotate_left
 · intro wq hSw
   go_simp
   try with_reducible rfl
 try simp only [Act.put, pX]
 refine Ra.wpA_ready (rs := [14]) (by kernel_rfl) (by simp) ?_
 refine Ra.AllReadyA.late rfl rfl (fun K hK => ?_) Ra.AllReadyA.nil
 rw [if_pos (by kernel_rfl)]
 go_simp
 skip
 refine hK.out _ _ (trivial) (fun hHeld2 => ?_)
 clear hK K
 try clear hHeld
 have hHeld := hHeld2
 try clear hHeld2
 refine Ra.wpA_done (by kernel_rfl) ?_ _
 have ch7 := heap_setCell_same w6 hb 0 _ _ (.slice (some ⟨g2, 0, none⟩) (l.length + 1) c2) ch6
 have K7 := K6.out.setCell (j := 0) (.inl (show hb = hb ∨ v0.ownBlock = some hb from .inl rfl)) (.slice (some ⟨g2, 0, none⟩) (l.length + 1) c2)
 have kF : Keep (fun j => j = hb) w6 (w6.setCell ⟨hb, 0, none⟩ (.slice (some ⟨g2, 0, none⟩) (l.length + 1) c2)) := Keep.setCell (S := fun j => j = hb) (Keep.refl _ w6) (.inl rfl) _
 have o7 := kF.row HP6.out (fun g hg e => by (have := own_base HP6.out g hg; omega))
 go_end0
 exact ⟨rfl, _, by simpa using ch7, o7, K7, fun g hg => HG6.out g (by injection hg with hg; exact hg.symm)⟩
set_option maxRecDepth 100000 in
set_option maxHeartbeats 4000000 in
theorem hadd1 (w : World) (base hb : Nat) (v0 v1 : Value) (l : List Cel) (c : Cel) (hh : w.heap[hb]? = some (.cells #[v0, v1] 292 (0, 0))) (ho : w.ownsRow base 33 4 v1 l.length (flatC l)) (hbb : hb < base) (hbs : base ≤ w.heap.size) (hl : l.length ≤ 10000) :
 Calls Tryz.prog 198 #[.pointer (some ⟨hb, 0, none⟩), .int .i64 1, c.v] w fun e w' => e = .returned (.tuple #[]) ∧ ∃ v', w'.heap[hb]? = some (.cells #[v0, v'] 292 (0, 0)) ∧
  w'.ownsRow base 33 4 v' (l ++ [c]).length (flatC (l ++ [c])) ∧ Keep (fun j => j = hb ∨ v1.ownBlock = some j) w w' ∧ ∀ g, v'.ownBlock = some g → v1.ownBlock = some g ∨ w.heap.size ≤ g := by
 obtain ⟨i1, hig, hy0, hy1, hy2⟩ := info_parts info_cell
 have hfl : flatC (l ++ [c]) = flatC l ++ [.string (str c.key), .string (str c.val), .int .i64 (c.blob : Nat), .int .i64 (c.size : Nat)] := by simp [flatC, Cel.cells]
 rw [hfl, List.length_append]
 simp only [Cel.v]
 obtain ⟨U1, hU1⟩ : ∃ U, U = str c.key := ⟨_, rfl⟩
 obtain ⟨U2, hU2⟩ : ∃ U, U = str c.val := ⟨_, rfl⟩
 obtain ⟨xb, hxb⟩ : ∃ b : Int, b = (c.blob : Nat) := ⟨_, rfl⟩
 obtain ⟨xz, hxz⟩ : ∃ b : Int, b = (c.size : Nat) := ⟨_, rfl⟩
 rw [← hU1, ← hU2, ← hxb, ← hxz]
 have lh := lt_of_block hh
 have H0 := Lib.hid (hal (o := celO U1 U2 xb xz) hh)
 have Z0 := Lib.hid (heap_alloc_new w (celO U1 U2 xb xz))
 have O0 := Lib.hid (ho.alloc (celO U1 U2 xb xz))
 have HO := Lib.hid ho
 clear hU1 hU2 hxb hxz hfl hh ho
 go_enter Tryz.func198, Tryz.ntmps198
 go_wp2_with fail
 obtain ⟨w1, hw1⟩ : ∃ w1, w1 = w.alloc (celO U1 U2 xb xz) := ⟨_, rfl⟩
 rw [← hw1] at H0 Z0 O0 ⊢
 have K1 : Hid (Keep (fun j => j = hb ∨ v1.ownBlock = some j) w w1) := Lib.hid (hw1 ▸ Keep.of_below (below_al (Below.refl _ w) _))
 have hs1 : w1.heap.size = w.heap.size + 1 := by rw [hw1]; simp
 have Hs1 := Lib.hid hs1
 have N1 : Hid (w1.drew.ownsRow base 33 4 v1 l.length (flatC l)) := Lib.hid O0.out
 clear hw1 hs1
 refine Ra.wp_region_A (S := (Bz w1)) [7, 8, 9] (by kernel_rfl) (below_dr (Below.refl _ _)) (fun hHeld => ?_)
 refine Ra.WT 0 ?_ ?_ ?_
 rotate_left
 · intro wq hSw
   go_simp
   try with_reducible rfl
 try simp only [Act.put, pX]
 refine Ra.WT 1 ?_ ?_ ?_
 rotate_left
 · intro wq hSw
   go_simp
   try with_reducible rfl
 try simp only [Act.put, pX]
 refine Ra.WT 2 ?_ ?_ ?_
 rotate_left
 · intro wq hSw
   go_simp
   try with_reducible rfl
 try simp only [Act.put, pX]
 refine Ra.WT 3 ?_ ?_ ?_
 rotate_left
 · intro wq hSw
   go_simp
   try with_reducible rfl
 try simp only [Act.put, pX]
 refine Ra.WT 4 ?_ ?_ ?_
 rotate_left
 · intro wq hSw
   go_simp
   try with_reducible rfl
 try simp only [Act.put, pX]
 refine Ra.WT 5 ?_ ?_ ?_
 rotate_left
 · intro wq hSw
   go_simp
   try with_reducible rfl
 try simp only [Act.put, pX]
 refine Ra.WT 6 ?_ ?_ ?_
 rotate_left
 · intro wq hSw
   go_simp
   try with_reducible rfl
 try simp only [Act.put, pX]
 refine Ra.WT 11 ?_ ?_ ?_
 rotate_left
 · intro wq hSw
   go_simp
   try with_reducible rfl
 try simp only [Act.put, pX]
 refine Ra.WT 12 ?_ ?_ ?_
 rotate_left
 · intro wq hSw
   go_simp
   try with_reducible rfl
 try simp only [Act.put, pX]
 refine Ra.WA 7 ?_ ?_ hHeld ?_
 rotate_left
 · intro wq hSw
   have hSc := blk_cell (blk_keep H0.out hSw); have hSl := lt_of_block (blk_keep H0.out hSw); have hSd := blk_cell (blk_keep Z0.out hSw); have hSe := lt_of_block (blk_keep Z0.out hSw)
   go_simp
   try with_reducible rfl
 try simp only [Act.put, pX]
 refine Ra.WA 8 ?_ ?_ hHeld ?_
 rotate_left
 · intro wq hSw
   have hSc := blk_cell (blk_keep H0.out hSw); have hSl := lt_of_block (blk_keep H0.out hSw); have hSd := blk_cell (blk_keep Z0.out hSw); have hSe := lt_of_block (blk_keep Z0.out hSw)
   go_simp
   try with_reducible rfl
 try simp only [Act.put, pX]
 refine Ra.wpA_ready (rs := [9]) (by kernel_rfl) (by simp) ?_
 refine Ra.AllReadyA.cons rfl (fun K hK => ?_) Ra.AllReadyA.nil
 rw [if_pos (by kernel_rfl)]
 go_simp
 skip
 refine hK.out _ _ (below_al hHeld _) (fun hHeld2 => ?_)
 clear hK K
 try clear hHeld
 have hHeld := hHeld2
 try clear hHeld2
 refine Ra.wpA_ready (rs := [10]) (by kernel_rfl) (by simp) ?_
 refine Ra.AllReadyA.late rfl rfl (fun K hK => ?_) Ra.AllReadyA.nil
 refine step_append_lies _ rfl _ _ _ rfl base 33 i1 (.agg #[.string ⟨#[]⟩, .string ⟨#[]⟩, .int .i64 0, .int .i64 0]) 4 48 Tryz.underlying142 hig hy0 hy1 hy2 rfl (by decide) v1 l.length _ rfl (N1.out.alloc _) ⟨w1.heap.size, 0, none⟩ 1 1 [.string U1, .string U2, .int .i64 xb, .int .i64 xz] rfl rfl (cells_blk (heap_alloc_new w1.drew (celO U1 U2 xb xz))) (by intro u hu; simp at hu; rcases hu with rfl | rfl | rfl | rfl <;> rfl) (by omega) (by unfold maxLen; omega) (by omega) (by have := Hs1.out; simp; omega) _ rfl ?_
 intro g2 c2 w6 ho2 hg2 hat2 hl2
 have k9 := Keep.grown (S := fun k => v1.ownBlock = some k) hg2 (fun j h => h)
 have HP6 := Lib.hid ho2
 have HG6 : Hid (∀ g, g = g2 → v1.ownBlock = some g ∨ w.heap.size ≤ g) := Lib.hid (fun g e => by (subst e; rcases hat2 with h1 | h1; exact .inl h1; exact .inr (by have h2 := h1; have := Hs1.out; simp at h2; omega)))
 have ch6 := k9.blk (hal (o := celO U1 U2 xb xz) (show w1.drew.heap[hb]? = _ from H0.out)) (fun e => by have := own_base HO.out _ e; omega)
 have K6 : Hid (Keep (fun j => j = hb ∨ v1.ownBlock = some j) w w6) := Lib.hid ((K1.out.below (below_al (below_dr (Below.refl _ w1)) (celO U1 U2 xb xz))).trans (k9.mono (fun j h => .inr h)))
 have cc6 := blk_cell ch6
 have fc6 := blk_free ch6
 have lc6 := lt_of_block ch6
 clear ho2 hg2 hat2 k9
 refine hK.out _ _ (trivial) (fun hHeld2 => ?_)
 clear hK K
 try clear hHeld
 have hHeld := hHeld2
 try clear hHeld2
 refine Ra.WT 13 ?_ ?_ ?_
 rotate_left
 · intro wq hSw
   go_simp
   try with_reducible rfl
 try simp only [Act.put, pX]
 refine Ra.wpA_ready (rs := [14]) (by kernel_rfl) (by simp) ?_
 refine Ra.AllReadyA.late rfl rfl (fun K hK => ?_) Ra.AllReadyA.nil
 rw [if_pos (by kernel_rfl)]
 go_simp
 skip
 refine hK.out _ _ (trivial) (fun hHeld2 => ?_)
 clear hK K
 try clear hHeld
 have hHeld := hHeld2
 try clear hHeld2
 refine Ra.wpA_done (by kernel_rfl) ?_ _
 have ch7 := heap_setCell_same w6 hb 1 _ _ (.slice (some ⟨g2, 0, none⟩) (l.length + 1) c2) ch6
 have K7 := K6.out.setCell (j := 1) (.inl (show hb = hb ∨ v1.ownBlock = some hb from .inl rfl)) (.slice (some ⟨g2, 0, none⟩) (l.length + 1) c2)
 have kF : Keep (fun j => j = hb) w6 (w6.setCell ⟨hb, 1, none⟩ (.slice (some ⟨g2, 0, none⟩) (l.length + 1) c2)) := Keep.setCell (S := fun j => j = hb) (Keep.refl _ w6) (.inl rfl) _
 have o7 := kF.row HP6.out (fun g hg e => by (have := own_base HP6.out g hg; omega))
 go_end0
 exact ⟨rfl, _, by simpa using ch7, o7, K7, fun g hg => HG6.out g (by injection hg with hg; exact hg.symm)⟩
end Go.Proofs.YtijhamllnnilbaaGreatDoor.Ha
namespace Go.Proofs.YtijhamllnnilbaaGreatDoor.Ha
open Go.RowKit Go.Proofs.YtijhamllnnilbaaGreatDoor.Mem Go.Proofs.YtijhamllnnilbaaGreatDoor.Pg Go.Proofs.YtijhamllnnilbaaGreatDoor.Gr Go.Proofs.YtijhamllnnilbaaGreatDoor.Sp
set_option linter.unusedVariables false
set_option linter.unusedSimpArgs false
theorem entsF_twice (D : Nat) (t : Tri) (h : t.height ≤ D) : entsF (D + 1) t = entsF D t ++ entsF D t := by
 have hp : 2 ^ (D + 1) = 2 ^ D * 2 := Nat.pow_succ ..
 refine List.ext_getElem? fun i => ?_
 by_cases hi : i < 2 ^ (D + 1)
 · rw [entsF_get _ _ _ hi]
   have hm := (t.at_mod i D (Nat.le_trans (t.dep_le i) h)).1
   by_cases h1 : i < 2 ^ D
   · rw [List.getElem?_append_left (by rw [entsF_len]; exact h1), entsF_get _ _ _ h1]
   · have hlt : i - 2 ^ D < 2 ^ D := by omega
     rw [List.getElem?_append_right (by rw [entsF_len]; omega), entsF_len, entsF_get _ _ _ hlt]
     have e : i % 2 ^ D = i - 2 ^ D := by rw [Nat.mod_eq_sub_mod (by omega), Nat.mod_eq_of_lt hlt]
     rw [e] at hm
     rw [hm]
 · rw [List.getElem?_eq_none (by rw [entsF_len]; omega), List.getElem?_eq_none (by rw [List.length_append, entsF_len]; omega)]
def halfT (d : Nat) (b : Lf) (m : Nat) : Tri := .node (.leaf ⟨b.n, b.cs.filter (bitF d), []⟩) (.leaf ⟨m, b.cs.filter (fun c => !bitF d c), []⟩)
theorem half_at (d : Nat) (b : Lf) (m i : Nat) : (halfT d b m).at' i = if i % 2 = 0 then ⟨b.n, b.cs.filter (bitF d), []⟩ else ⟨m, b.cs.filter (fun c => !bitF d c), []⟩ := rfl
theorem half_dep (d : Nat) (b : Lf) (m i : Nat) : (halfT d b m).dep i = 1 := by
 unfold halfT
 rw [Tri.dep_node]
 split <;> rfl
theorem pow_split (i d : Nat) : i % 2 ^ (d + 1) = i % 2 ^ d + 2 ^ d * (i / 2 ^ d % 2) := Nat.mod_pow_succ ..
theorem entsF_split (D : Nat) (t : Tri) (h m : Nat) : entsF D (t.upd h (t.dep h) (halfT (t.dep h) (t.at' h) m)) = Dr.setTo (entsF D t) (2 ^ (t.dep h + 1)) ((h % 2 ^ t.dep h + 2 ^ t.dep h : Nat) : Int) m (entsF D t).length := by
 refine List.ext_getElem (by rw [Dr.setTo_len, entsF_len, entsF_len]) fun i h1 h2 => ?_
 have hi : i < 2 ^ D := by rw [entsF_len] at h1; exact h1
 have e1 := entsF_get D (t.upd h (t.dep h) (halfT (t.dep h) (t.at' h) m)) i hi
 rw [List.getElem?_eq_getElem h1] at e1
 injection e1 with e1
 have e2 := Dr.setTo_get (entsF D t) (2 ^ (t.dep h + 1)) ((h % 2 ^ t.dep h + 2 ^ t.dep h : Nat) : Int) m (entsF D t).length i (by rw [entsF_len]; exact hi)
 rw [List.getD_eq_getElem?_getD, List.getElem?_eq_getElem h2, Option.getD_some] at e2
 rw [e1, e2, Tri.at_upd _ _ t h i (Nat.le_refl _), List.getD_eq_getElem?_getD, entsF_get _ _ _ hi, Option.getD_some, entsF_len]
 have e3 := pow_split i (t.dep h)
 have e4 : h % 2 ^ t.dep h < 2 ^ t.dep h := Nat.mod_lt _ (Nat.two_pow_pos _)
 have e5 : i % 2 ^ t.dep h < 2 ^ t.dep h := Nat.mod_lt _ (Nat.two_pow_pos _)
 by_cases hs : i % 2 ^ t.dep h = h % 2 ^ t.dep h
 · rw [if_pos hs, half_at]
   rcases Nat.mod_two_eq_zero_or_one (i / 2 ^ t.dep h) with hb | hb
   · rw [if_pos hb, if_neg]
     · rw [(at_same t h i hs).1]
     · rintro ⟨_, h3⟩
       have h4 : i % 2 ^ (t.dep h + 1) = h % 2 ^ t.dep h + 2 ^ t.dep h := by exact_mod_cast h3
       rw [e3, hb, Nat.mul_zero] at h4
       omega
   · rw [if_neg (by omega), if_pos ⟨hi, by rw [e3, hb, hs, Nat.mul_one]⟩]
 · rw [if_neg hs, if_neg]
   rintro ⟨_, h3⟩
   have h4 : i % 2 ^ (t.dep h + 1) = h % 2 ^ t.dep h + 2 ^ t.dep h := by exact_mod_cast h3
   rw [e3] at h4
   rcases Nat.mod_two_eq_zero_or_one (i / 2 ^ t.dep h) with hb | hb
   · rw [hb, Nat.mul_zero] at h4; omega
   · rw [hb, Nat.mul_one] at h4; omega
theorem cells_of_cs {b : Lf} (h : b.ov = []) : b.cells = b.cs := by unfold Lf.cells Lf.pgs; rw [h]; simp
theorem nums_of_n {b : Lf} (h : b.ov = []) : b.nums = [b.n] := by unfold Lf.nums Lf.pgs; rw [h]; rfl
theorem look_split (t : Tri) (h m : Nat) (hov : (t.at' h).ov = []) (k : List UInt8) : lookT (t.upd h (t.dep h) (halfT (t.dep h) (t.at' h) m)) k = lookT t k := by
 unfold lookT
 rw [Tri.at_upd _ _ t h _ (Nat.le_refl _)]
 by_cases hs : sumF k % 2 ^ t.dep h = h % 2 ^ t.dep h
 · rw [if_pos hs, (at_same t h _ hs).1, half_at, cells_of_cs hov]
   have one : ∀ (p : Cel → Bool), (∀ c : Cel, c.key = k → p c = true) → lookF k ((t.at' h).cs.filter p) = lookF k (t.at' h).cs := fun p hp => by
    unfold lookF
    rw [List.find?_filter]
    congr 1
    funext c
    by_cases e : c.key = k
    · simp [e, hp c e]
    · simp [e]
   rcases Nat.mod_two_eq_zero_or_one (sumF k / 2 ^ t.dep h) with hb | hb
   · rw [if_pos hb, cells_of_cs rfl]
     exact one _ (fun c e => by simp [bitF, e, hb])
   · rw [if_neg (by omega), cells_of_cs rfl]
     exact one _ (fun c e => by simp [bitF, e, hb])
 · rw [if_neg hs]
theorem szs_filter_le (p : Cel → Bool) (l : List Cel) : szs (l.filter p) ≤ szs l := by
 induction l with
 | nil => exact Nat.le_refl _
 | cons a r ih =>
  by_cases h : p a = true
  · rw [List.filter_cons_of_pos h]; simp [szs] at ih ⊢; omega
  · rw [List.filter_cons_of_neg h]; simp [szs] at ih ⊢; omega
theorem Fits.filter {l : List Cel} (h : Fits l) (p : Cel → Bool) : Fits (l.filter p) :=
 ⟨fun c hc => h.ok c (List.mem_filter.1 hc).1, List.Pairwise.filter _ h.lt, Nat.le_trans (szs_filter_le p l) h.room⟩
variable {n D : Nat} {pg : Nat → Pag} {t : Tri} {ml : List UInt8} {X : List Nat}
def splitPg (pg : Nat → Pag) (md mx : Int) (ml : List UInt8) (D' : Nat) (t : Tri) (h m : Nat) : Nat → Pag :=
 updN (updN (updN (updN pg 1 ⟨2, md, mx, ml.set m 1⟩) 0 (dirF D' (t.upd h (t.dep h) (halfT (t.dep h) (t.at' h) m)))) (t.at' h).n ⟨3, ((t.dep h + 1 : Nat) : Int), 0, bodyF ((t.at' h).cs.filter (bitF (t.dep h)))⟩) m ⟨3, ((t.dep h + 1 : Nat) : Int), 0, bodyF ((t.at' h).cs.filter (fun c => !bitF (t.dep h) c))⟩
theorem Hs.split (H : Hs n pg D t ml X) (h m : Nat) (hov : (t.at' h).ov = []) (hi : takeI 2 ml = m) {md mx : Int} (hp1 : pg 1 = ⟨2, md, mx, ml⟩) (D' : Nat) (hD : D ≤ D') (hd : t.dep h + 1 ≤ D') (h5 : D' ≤ 5) :
 Hs n (splitPg pg md mx ml D' t h m) D' (t.upd h (t.dep h) (halfT (t.dep h) (t.at' h) m)) (ml.set m 1) X ∧ m ∉ numsF t.leaves ∧ 2 ≤ m ∧ m < n := by
 obtain ⟨f2, fn, fl, fX, fm, fb⟩ := H.free hi
 have T := H.tb
 have hk : t.dep h ≤ t.dep h := Nat.le_refl _
 have hsub : (t.sub h (t.dep h)).leaves = [t.at' h] := by rw [Tri.sub_dep]; rfl
 have n1 : ∀ b : Lf, numsF [b] = b.nums := fun b => by simp [numsF]
 have hbn := nums_of_n hov
 have hbm : (t.at' h).n ∈ numsF t.leaves := numsF_mem (t.at_mem h) (Lf.n_mem _)
 have hbr := T.rng _ hbm
 have hne : (t.at' h).n ≠ m := fun e => fl (e ▸ hbm)
 have hcs := cells_of_cs hov
 have hleaves : (halfT (t.dep h) (t.at' h) m).leaves = [⟨(t.at' h).n, (t.at' h).cs.filter (bitF (t.dep h)), []⟩, ⟨m, (t.at' h).cs.filter (fun c => !bitF (t.dep h) c), []⟩] := rfl
 have hnum2 : numsF (halfT (t.dep h) (t.at' h) m).leaves = [(t.at' h).n, m] := rfl
 have hfit : Fits (t.at' h).cs := T.fits _ (t.at_mem h) ((t.at' h).n, (t.at' h).cs) (List.mem_cons_self ..)
 have hlead : ∀ c, c ∈ (t.at' h).cs → sumF c.key % 2 ^ t.dep h = h % 2 ^ t.dep h := fun c hc => lead_mod H h (by rw [hcs]; exact hc)
 have hkeys : ((t.at' h).cs.map Cel.key).Nodup := by have := T.keys _ (t.at_mem h); rwa [hcs] at this
 have P : Part n (splitPg pg md mx ml D' t h m) t h (t.dep h) (halfT (t.dep h) (t.at' h) m) := by
  refine ⟨fun i q hq => ?_, fun b hb p hp => ?_, ?_, fun y hy => ?_, fun y hy => ?_, fun b hb c hc => ?_, fun b hb => ?_⟩
  · rw [half_at, half_dep] at hq
    by_cases e : i % 2 = 0
    · rw [if_pos e] at hq
      simp [Lf.pags, Lf.pgs, pagsF, nextF] at hq
      subst hq
      unfold splitPg
      rw [updN_other _ _ hne, updN_same]
      simp
    · rw [if_neg e] at hq
      simp [Lf.pags, Lf.pgs, pagsF, nextF] at hq
      subst hq
      unfold splitPg
      rw [updN_same]
      simp
  · rw [hleaves] at hb
    rcases List.mem_cons.1 hb with rfl | hb
    · rcases List.mem_cons.1 hp with rfl | hp
      · exact hfit.filter _
      · cases hp
    · rw [List.mem_singleton] at hb
      subst hb
      rcases List.mem_cons.1 hp with rfl | hp
      · exact hfit.filter _
      · cases hp
  · rw [hnum2]; simp [hne]
  · rw [hnum2] at hy
    rcases List.mem_cons.1 hy with rfl | hy
    · exact hbr
    · rw [List.mem_singleton.1 hy]; exact ⟨f2, fn⟩
  · rw [hnum2] at hy
    rw [hsub, n1, hbn]
    rcases List.mem_cons.1 hy with rfl | hy
    · exact .inl (List.mem_cons_self ..)
    · rw [List.mem_singleton.1 hy]; exact .inr fl
  · rw [hleaves] at hb
    rcases List.mem_cons.1 hb with rfl | hb
    · rw [cells_of_cs rfl] at hc
      have h1 := List.mem_filter.1 hc
      refine ⟨hlead c h1.1, ?_⟩
      rw [half_at, if_pos (by simpa [bitF] using h1.2)]
    · rw [List.mem_singleton] at hb
      subst hb
      rw [cells_of_cs rfl] at hc
      have h1 := List.mem_filter.1 hc
      refine ⟨hlead c h1.1, ?_⟩
      rw [half_at, if_neg (by simpa [bitF] using h1.2)]
  · rw [hleaves] at hb
    rcases List.mem_cons.1 hb with rfl | hb
    · rw [cells_of_cs rfl]; exact (List.filter_sublist.map _).nodup hkeys
    · rw [List.mem_singleton] at hb
      subst hb
      rw [cells_of_cs rfl]; exact (List.filter_sublist.map _).nodup hkeys
 obtain ⟨L, R, e1, e2⟩ := Tri.leaves_upd (t.dep h) t h hk
 rw [hsub] at e1
 have e3 := e2 (halfT (t.dep h) (t.at' h) m)
 have hmem : ∀ y, y ∈ numsF (t.upd h (t.dep h) (halfT (t.dep h) (t.at' h) m)).leaves ↔ y ∈ numsF t.leaves ∨ y = m := fun y => by
  rw [e3, e1]
  simp only [numsF_append, n1, hbn, hnum2, List.mem_append, List.mem_cons, List.not_mem_nil, or_false]
  constructor
  · rintro (h1 | (h1 | h1) | h1)
    · exact .inl (.inl h1)
    · exact .inl (.inr (.inl h1))
    · exact .inr h1
    · exact .inl (.inr (.inr h1))
  · rintro ((h1 | h1 | h1) | h1)
    · exact .inl h1
    · exact .inr (.inl (.inl h1))
    · exact .inr (.inr h1)
    · exact .inr (.inl (.inr h1))
 have hother : ∀ y, y ≠ 1 → y ≠ 0 → y ≠ (t.at' h).n → y ≠ m → splitPg pg md mx ml D' t h m y = pg y := fun y a b c d => by
  unfold splitPg
  rw [updN_other _ _ d, updN_other _ _ c, updN_other _ _ b, updN_other _ _ a]
 refine ⟨⟨T.upd hk P hD (by show t.dep h + (max 0 0 + 1) ≤ D'; omega) h5 ?_ (fun y h1 h2 => ?_), ⟨md, mx, ?_⟩, fm, fun y h2 hy => ?_, H.xr, fun y hy h1 => ?_, H.xn⟩, fl, f2, fn⟩
 · unfold splitPg
   rw [updN_other _ _ (by omega), updN_other _ _ (by omega), updN_same]
 · have h3 := T.rng y h1
   rw [hsub, n1, hbn, List.mem_singleton] at h2
   exact hother y (by omega) (by omega) h2 (fun e => fl (e ▸ h1))
 · unfold splitPg
   rw [updN_other _ _ (by omega), updN_other _ _ (by omega), updN_other _ _ (by omega), updN_same]
 · rw [fb y, hmem y]
   by_cases e : y = m
   · rw [if_pos e]; exact ⟨fun _ => .inl (.inr e), fun _ => rfl⟩
   · rw [if_neg e, H.used y h2 hy]
     constructor
     · rintro (h3 | h3); exact .inl (.inl h3); exact .inr h3
     · rintro ((h3 | h3) | h3); exact .inl h3; exact absurd h3 e; exact .inr h3
 · rcases (hmem y).1 h1 with h3 | h3
   · exact H.xd y hy h3
   · exact fX (h3 ▸ hy)
theorem split_len (t : Tri) (h m : Nat) (hov : (t.at' h).ov = []) : (numsF (t.upd h (t.dep h) (halfT (t.dep h) (t.at' h) m)).leaves).length = (numsF t.leaves).length + 1 := by
 have h1 := numsF_upd_len t h (t.dep h) (halfT (t.dep h) (t.at' h) m) (Nat.le_refl _)
 rw [Tri.sub_dep] at h1
 have h2 : (numsF (Tri.leaf (t.at' h)).leaves).length = 1 := by
  show (numsF [t.at' h]).length = 1
  simp [numsF, nums_of_n hov]
 have h3 : (numsF (halfT (t.dep h) (t.at' h) m).leaves).length = 2 := rfl
 omega
end Go.Proofs.YtijhamllnnilbaaGreatDoor.Ha
