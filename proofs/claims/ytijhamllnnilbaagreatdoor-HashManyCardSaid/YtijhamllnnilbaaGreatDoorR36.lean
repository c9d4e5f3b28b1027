/- Lemmas of the claim, in their order:
- The contract of reach.add.
- The contracts of bucket's halves. (Printed by tools/gen_halves.py.)
- The contract of hash.filled.
-/
import Derived.Test.YtijhamllnnilbaaGreatDoorR31
import Derived.Test.YtijhamllnnilbaaGreatDoorR24
import Derived.Test.YtijhamllnnilbaaGreatDoorR14
import Derived.Test.YtijhamllnnilbaaGreatDoorR33
set_option linter.unusedVariables false
set_option linter.unusedSimpArgs false
namespace Go.Proofs.YtijhamllnnilbaaGreatDoor.Ha
open Go.RowKit Go.Proofs.YtijhamllnnilbaaGreatDoor.Mem Go.Proofs.YtijhamllnnilbaaGreatDoor.Pg Go.Proofs.YtijhamllnnilbaaGreatDoor.Kp Go.Proofs.YtijhamllnnilbaaGreatDoor.Sp Go.Proofs.YtijhamllnnilbaaGreatDoor.Gr
set_option linter.unusedSimpArgs false
set_option linter.unusedVariables false
theorem toI_snoc (V : List Nat) (m : Nat) : (fun j : Int => j == (m : Int) || decide (j ∈ toI V)) = (fun j => decide (j ∈ toI (V ++ [m]))) := by
 funext j
 rw [Bool.eq_iff_iff]
 rw [Bool.or_eq_true, beq_iff_eq, decide_eq_true_eq, decide_eq_true_eq]
 unfold toI
 rw [List.map_append, List.mem_append, List.map_cons, List.map_nil, List.mem_singleton]
 exact Or.comm
theorem Rch.put {w : World} {rb mb : Nat} {V : List Nat} (h : Rch w rb mb V) {m : Nat} (hm : m ∉ V) (h64 : m < 64) (hv : V.length ≤ 64) :
 ∃ w', (Instr.mapUpdate 149 (.map (some mb)) (.int .i64 m) (.bool true)).run Tryz.prog w = .ok () w' ∧ Rch w' rb mb (V ++ [m]) ∧ w.grownBy w' (some mb) := by
 have hno : decide (((m : Nat) : Int) ∈ toI V) = false := by rw [decide_eq_false_iff_not, toI_mem]; exact hm
 obtain ⟨w', h1, h2, h3⟩ := h.map.put (m : Nat) (kl_wf (by omega) (by omega)) (by omega)
 rw [hno, if_neg (by simp), toI_snoc] at h2
 refine ⟨w', h1, ⟨?_, by rw [List.length_append]; exact h2, ?_, h.ne⟩, h3⟩
 · rw [h3.block _ (lt_of_block h.blk) (fun e => by injection e with e; exact h.ne e)]
   exact h.blk
 · rw [List.nodup_append]
   exact ⟨h.nd, by simp, fun a ha b hb e => by rw [List.mem_singleton.1 hb] at e; exact hm (e ▸ ha)⟩
theorem Rch.lookNo {w : World} {rb mb : Nat} {V : List Nat} (h : Rch w rb mb V) {m : Nat} (hm : m ∉ V) (h64 : m < 64) : (Instr.lookup 149 (.map (some mb)) (.int .i64 m) false).run Tryz.prog w = .ok (.bool false) w := by
 have h1 := h.map.look (m : Nat) (kl_wf (by omega) (by omega))
 rwa [show decide (((m : Nat) : Int) ∈ toI V) = false by rw [decide_eq_false_iff_not, toI_mem]; exact hm] at h1
theorem toI_len (l : List Nat) : (toI l).length = l.length := by simp [toI]
theorem nodup_64 {V : List Nat} (h : V.Nodup) (hl : ∀ m, m ∈ V → m < 64) : V.length ≤ 64 := nodup_lt 64 V h hl
set_option maxRecDepth 100000 in
set_option maxHeartbeats 4000000 in
theorem radd_ok (w : World) (rb mb : Nat) (V l : List Nat) (A : Option Addr) (cap : Nat) (hR : Rch w rb mb V) (hI : Ints w A l.length (toI l)) (hn : (V ++ l).Nodup) (h64 : ∀ m, m ∈ V ++ l → m < 64) (hA : ∀ b off, A = some ⟨b, off, none⟩ → b ≠ rb ∧ b ≠ mb) :
 Calls Tryz.prog 65 #[.pointer (some ⟨rb, 0, none⟩), .slice A l.length cap] w fun e w' => e = .returned (.tuple #[]) ∧ Rch w' rb mb (V ++ l) ∧ Keep (fun j => j = rb ∨ j = mb) w w' := by
 have hlen : l.length ≤ 64 := nodup_64 (List.nodup_append.1 hn).2.1 (fun m hm => h64 m (List.mem_append_right _ hm))
 have HI := Lib.hid hI
 have HN := Lib.hid hn
 have H6 := Lib.hid h64
 have HA := Lib.hid hA
 have R0 : Hid (Rch w rb mb (V ++ l.take 0)) := Lib.hid (by rw [List.take_zero, List.append_nil]; exact hR)
 have K0 : Hid (Keep (fun j => j = rb ∨ j = mb) w w) := Lib.hid (Keep.refl _ _)
 clear hI hn h64 hA hR
 go_enter Tryz.func65, Tryz.ntmps65
 go_wp2_with fail
 go_loopw [8] (fun v wr => ∃ j : Nat, v = .int .i64 (j : Nat) ∧ j ≤ l.length ∧ Hid (Rch wr rb mb (V ++ l.take j)) ∧ Hid (Keep (fun j => j = rb ∨ j = mb) w wr)) (fun v _ => l.length - (intOf v).toNat)
 case atStart => exact ⟨0, rfl, Nat.zero_le _, R0, K0⟩
 case round =>
  clear R0 K0
  obtain ⟨j, rfl, hj, R1, K1⟩ := hrel
  by_cases hlt : j < l.length
  · obtain ⟨b, off, rfl, hbl, hcell⟩ := HI.out.2.2 (by omega)
    obtain ⟨hb1, hb2⟩ := HA.out b off rfl
    have hc0 := (K1.out.cell (o := off + j) hbl (by omega)).trans (hcell j hlt)
    rw [toI_getD l j hlt] at hc0
    have hbw : b < wr.heap.size := Nat.lt_of_lt_of_le hbl K1.out.size
    have hsplit : V ++ l.take (j + 1) = (V ++ l.take j) ++ [l[j]] := by rw [List.take_succ_eq_append_getElem hlt, List.append_assoc]
    have hnd : (V ++ l.take (j + 1)).Nodup := List.Nodup.sublist ((List.take_sublist (j + 1) l).append_left V) HN.out
    have hno : l[j] ∉ V ++ l.take j := fun h => by
     rw [hsplit, List.nodup_append] at hnd
     exact hnd.2.2 _ h _ (List.mem_singleton_self _) rfl
    have h6 : l[j] < 64 := H6.out _ (List.mem_append_right _ (List.getElem_mem hlt))
    have hv6 : (V ++ l.take j).length ≤ 64 := nodup_64 R1.out.nd (fun m hm => H6.out m (by
     rcases List.mem_append.1 hm with h | h
     · exact List.mem_append_left _ h
     · exact List.mem_append_right _ (List.mem_of_mem_take h)))
    have hlk := R1.out.lookNo hno h6
    obtain ⟨LJ, hLJ⟩ : ∃ LJ, LJ = l[j] := ⟨_, rfl⟩
    rw [← hLJ] at hc0 hno h6 hlk hsplit
    have cR := blk_cell R1.out.blk
    have fR := blk_free R1.out.blk
    have lR := lt_of_block R1.out.blk
    have R2 : Rch (wr.setCell ⟨rb, 1, none⟩ (.bool false)) rb mb (V ++ l.take j) := by
     have kk : Keep (fun j => j = rb) wr (wr.setCell ⟨rb, 1, none⟩ (.bool false)) := Keep.setCell (S := fun j => j = rb) (Keep.refl _ wr) (.inl rfl) _
     exact ⟨by simpa using heap_setCell_same wr rb 1 _ _ (.bool false) R1.out.blk, R1.out.map.block (kk.block _ R1.out.map.lt (fun e => R1.out.ne e.symm)), R1.out.nd, R1.out.ne⟩
    have K2 := Lib.hid (K1.out.setCell (j := 1) (.inl (show rb = rb ∨ rb = mb from .inl rfl)) (.bool false))
    have cR2 := blk_cell R2.blk
    have lR2 := lt_of_block R2.blk
    obtain ⟨w3, hput, R3, hg3⟩ := R2.put hno h6 hv6
    rw [← hsplit] at R3
    have K3 := Lib.hid (K2.out.trans (Keep.grown (S := fun j => j = rb ∨ j = mb) hg3 (fun k hk => by injection hk with hk; exact .inr hk.symm)))
    have HR3 := Lib.hid R3
    have hjI : (j : Int) < (l.length : Int) := by omega
    have i1 : IntKind.i64.wrap ((j : Int) + 1) = (j : Int) + 1 := IntWalk.i64_in _ (by omega)
    clear hsplit hnd hno hv6 R2 R3 hg3 hLJ hcell K2 R1
    go_wp2_with fail
    refine ⟨⟨j + 1, by simp, by omega, HR3, K3⟩, ?_⟩
    clear i1
    simp [intOf]; omega
  · obtain rfl : j = l.length := by omega
    have RF := R1.out
    rw [List.take_length] at RF
    have HF := Lib.hid RF
    clear RF R1
    go_wp2_with fail
    go_end0
    exact ⟨rfl, HF.out, K1.out⟩
end Go.Proofs.YtijhamllnnilbaaGreatDoor.Ha
namespace Go.Proofs.YtijhamllnnilbaaGreatDoor.Ha
open Go.RowKit Go.Proofs.YtijhamllnnilbaaGreatDoor.Mem Go.Proofs.YtijhamllnnilbaaGreatDoor.Pg Go.Proofs.YtijhamllnnilbaaGreatDoor.Kp Go.Proofs.YtijhamllnnilbaaGreatDoor.Sp Go.Proofs.YtijhamllnnilbaaGreatDoor.Gr
set_option linter.unusedSimpArgs false
set_option linter.unusedVariables false
abbrev hvO (v0 v1 : Value) : Obj := .cells #[v0, v1] 292
set_option maxRecDepth 100000 in
set_option maxHeartbeats 4000000 in
theorem hadd0 (w : World) (base hb : Nat) (v0 v1 : Value) (l : List Cel) (c : Cel) (hh : w.heap[hb]? = some (.cells #[v0, v1] 292 (0, 0))) (ho : w.ownsRow base 33 4 v0 l.length (flatC l)) (hbb : hb < base) (hbs : base ≤ w.heap.size) (hl : l.length ≤ 10000) :
 Calls Tryz.prog 198 #[.pointer (some ⟨hb, 0, none⟩), .int .i64 0, c.v] w fun e w' => e = .returned (.tuple #[]) ∧ ∃ v', w'.heap[hb]? = some (.cells #[v', v1] 292 (0, 0)) ∧
  w'.ownsRow base 33 4 v' (l ++ [c]).length (flatC (l ++ [c])) ∧ Keep (fun j => j = hb ∨ v0.ownBlock = some j) w w' ∧ ∀ g, v'.ownBlock = some g → v0.ownBlock = some g ∨ w.heap.size ≤ g := by
 obtain ⟨i1, hig, hy0, hy1, hy2⟩ := info_parts info_cell
 have hfl : flatC (l ++ [c]) = flatC l ++ [.string (str c.key), .string (str c.val), .int .i64 (c.blob : Nat), .int .i64 (c.size : Nat)] := by simp [flatC, Cel.cells]
 rw [hfl, List.length_append]
 simp only [Cel.v]
 obtain ⟨U1, hU1⟩ : ∃ U, U = str c.key := ⟨_, rfl⟩
 obtain ⟨U2, hU2⟩ : ∃ U, U = str c.val := ⟨_, rfl⟩
 obtain ⟨xb, hxb⟩ : ∃ b : Int, b = (c.blob : Nat) := ⟨_, rfl⟩
 obtain ⟨xz, hxz⟩ : ∃ b : Int, b = (c.size : Nat) := ⟨_, rfl⟩
 rw [← hU1, ← hU2, ← hxb, ← hxz]
 have lh := lt_of_block hh
 have H0 := Lib.hid (hal (o := celO U1 U2 xb xz) hh)
 have Z0 := Lib.hid (heap_alloc_new w (celO U1 U2 xb xz))
 have O0 := Lib.hid (ho.alloc (celO U1 U2 xb xz))
 have HO := Lib.hid ho
 clear hU1 hU2 hxb hxz hfl hh ho
 go_enter Tryz.func198, Tryz.ntmps198
 go_wp2_with fail
 obtain ⟨w1, hw1⟩ : ∃ w1, w1 = w.alloc (celO U1 U2 xb xz) := ⟨_, rfl⟩
 rw [← hw1] at H0 Z0 O0 ⊢
 have K1 : Hid (Keep (fun j => j = hb ∨ v0.ownBlock = some j) w w1) := Lib.hid (hw1 ▸ Keep.of_below (below_al (Below.refl _ w) _))
 have hs1 : w1.heap.size = w.heap.size + 1 := by rw [hw1]; simp
 have Hs1 := Lib.hid hs1
 have N1 : Hid (w1.drew.ownsRow base 33 4 v0 l.length (flatC l)) := Lib.hid O0.out
 clear hw1 hs1
 refine Ra.wp_region_A (S := (Bz w1)) [7, 8, 9] (by kernel_rfl) (below_dr (Below.refl _ _)) (fun hHeld => ?_)
 refine Ra.WT 0 ?_ ?_ ?_
 rotate_left
 · intro wq hSw
   go_simp
   try with_reducible rfl
 try simp only [Act.put, List.getElem_toArray, List.getElem_cons_succ, List.getElem_cons_zero, List.setIfInBounds_toArray, List.set_cons_zero, List.set_cons_succ]
 refine Ra.WT 1 ?_ ?_ ?_
 rotate_left
 · intro wq hSw
   go_simp
   try with_reducible rfl
 try simp only [Act.put, List.getElem_toArray, List.getElem_cons_succ, List.getElem_cons_zero, List.setIfInBounds_toArray, List.set_cons_zero, List.set_cons_succ]
 refine Ra.WT 2 ?_ ?_ ?_
 rotate_left
 · intro wq hSw
   go_simp
   try with_reducible rfl
 try simp only [Act.put, List.getElem_toArray, List.getElem_cons_succ, List.getElem_cons_zero, List.setIfInBounds_toArray, List.set_cons_zero, List.set_cons_succ]
 refine Ra.WT 3 ?_ ?_ ?_
 rotate_left
 · intro wq hSw
   go_simp
   try with_reducible rfl
 try simp only [Act.put, List.getElem_toArray, List.getElem_cons_succ, List.getElem_cons_zero, List.setIfInBounds_toArray, List.set_cons_zero, List.set_cons_succ]
 refine Ra.WT 4 ?_ ?_ ?_
 rotate_left
 · intro wq hSw
   go_simp
   try with_reducible rfl
 try simp only [Act.put, List.getElem_toArray, List.getElem_cons_succ, List.getElem_cons_zero, List.setIfInBounds_toArray, List.set_cons_zero, List.set_cons_succ]
 refine Ra.WT 5 ?_ ?_ ?_
 rotate_left
 · intro wq hSw
   go_simp
   try with_reducible rfl
 try simp only [Act.put, List.getElem_toArray, List.getElem_cons_succ, List.getElem_cons_zero, List.setIfInBounds_toArray, List.set_cons_zero, List.set_cons_succ]
 refine Ra.WT 6 ?_ ?_ ?_
 rotate_left
 · intro wq hSw
   go_simp
   try with_reducible rfl
 try simp only [Act.put, List.getElem_toArray, List.getElem_cons_succ, List.getElem_cons_zero, List.setIfInBounds_toArray, List.set_cons_zero, List.set_cons_succ]
 refine Ra.WT 11 ?_ ?_ ?_
 rotate_left
 · intro wq hSw
   go_simp
   try with_reducible rfl
 try simp only [Act.put, List.getElem_toArray, List.getElem_cons_succ, List.getElem_cons_zero, List.setIfInBounds_toArray, List.set_cons_zero, List.set_cons_succ]
 refine Ra.WT 12 ?_ ?_ ?_
 rotate_left
 · intro wq hSw
   go_simp
   try with_reducible rfl
 try simp only [Act.put, List.getElem_toArray, List.getElem_cons_succ, List.getElem_cons_zero, List.setIfInBounds_toArray, List.set_cons_zero, List.set_cons_succ]
 refine Ra.WA 7 ?_ ?_ hHeld ?_
 rotate_left
 · intro wq hSw
   have hSc := blk_cell (blk_keep H0.out hSw); have hSl := lt_of_block (blk_keep H0.out hSw); have hSd := blk_cell (blk_keep Z0.out hSw); have hSe := lt_of_block (blk_keep Z0.out hSw)
   go_simp
   try with_reducible rfl
 try simp only [Act.put, List.getElem_toArray, List.getElem_cons_succ, List.getElem_cons_zero, List.setIfInBounds_toArray, List.set_cons_zero, List.set_cons_succ]
 refine Ra.WA 8 ?_ ?_ hHeld ?_
 rotate_left
 · intro wq hSw
   have hSc := blk_cell (blk_keep H0.out hSw); have hSl := lt_of_block (blk_keep H0.out hSw); have hSd := blk_cell (blk_keep Z0.out hSw); have hSe := lt_of_block (blk_keep Z0.out hSw)
   go_simp
   try with_reducible rfl
 try simp only [Act.put, List.getElem_toArray, List.getElem_cons_succ, List.getElem_cons_zero, List.setIfInBounds_toArray, List.set_cons_zero, List.set_cons_succ]
 refine Ra.wpA_ready (rs := [9]) (by kernel_rfl) (by simp) ?_
 refine Ra.AllReadyA.cons rfl (fun K hK => ?_) Ra.AllReadyA.nil
 rw [if_pos (by kernel_rfl)]
 go_simp
 skip
 refine hK.out _ _ (below_al hHeld _) (fun hHeld2 => ?_)
 clear hK K
 try clear hHeld
 have hHeld := hHeld2
 try clear hHeld2
 refine Ra.wpA_ready (rs := [10]) (by kernel_rfl) (by simp) ?_
 refine Ra.AllReadyA.late rfl rfl (fun K hK => ?_) Ra.AllReadyA.nil
 refine step_append_lies _ rfl _ _ _ rfl base 33 i1 (.agg #[.string ⟨#[]⟩, .string ⟨#[]⟩, .int .i64 0, .int .i64 0]) 4 48 Tryz.underlying142 hig hy0 hy1 hy2 rfl (by decide) v0 l.length _ rfl (N1.out.alloc _) ⟨w1.heap.size, 0, none⟩ 1 1 [.string U1, .string U2, .int .i64 xb, .int .i64 xz] rfl rfl (cells_blk (heap_alloc_new w1.drew (celO U1 U2 xb xz))) (by intro u hu; simp at hu; rcases hu with rfl | rfl | rfl | rfl <;> rfl) (by omega) (by unfold maxLen; omega) (by omega) (by have := Hs1.out; simp; omega) _ rfl ?_
 intro g2 c2 w6 ho2 hg2 hat2 hl2
 have k9 := Keep.grown (S := fun k => v0.ownBlock = some k) hg2 (fun j h => h)
 have HP6 := Lib.hid ho2
 have HG6 : Hid (∀ g, g = g2 → v0.ownBlock = some g ∨ w.heap.size ≤ g) := Lib.hid (fun g e => by (subst e; rcases hat2 with h1 | h1; exact .inl h1; exact .inr (by have h2 := h1; have := Hs1.out; simp at h2; omega)))
 have ch6 := k9.blk (hal (o := celO U1 U2 xb xz) (show w1.drew.heap[hb]? = _ from H0.out)) (fun e => by have := own_base HO.out _ e; omega)
 have K6 : Hid (Keep (fun j => j = hb ∨ v0.ownBlock = some j) w w6) := Lib.hid ((K1.out.below (below_al (below_dr (Below.refl _ w1)) (celO U1 U2 xb xz))).trans (k9.mono (fun j h => .inr h)))
 have cc6 := blk_cell ch6
 have fc6 := blk_free ch6
 have lc6 := lt_of_block ch6
 clear ho2 hg2 hat2 k9
 refine hK.out _ _ (trivial) (fun hHeld2 => ?_)
 clear hK K
 try clear hHeld
 have hHeld := hHeld2
 try clear hHeld2
 refine Ra.WT 13 ?_ ?_ ?_
 rotate_left
 · intro wq hSw
   go_simp
   try with_reducible rfl
 try simp only [Act.put, List.getElem_toArray, List.getElem_cons_succ, List.getElem_cons_zero, List.setIfInBounds_toArray, List.set_cons_zero, List.set_cons_succ]
 refine Ra.wpA_ready (rs := [14]) (by kernel_rfl) (by simp) ?_
 refine Ra.AllReadyA.late rfl rfl (fun K hK => ?_) Ra.AllReadyA.nil
 rw [if_pos (by kernel_rfl)]
 go_simp
 skip
 refine hK.out _ _ (trivial) (fun hHeld2 => ?_)
 clear hK K
 try clear hHeld
 have hHeld := hHeld2
 try clear hHeld2
 refine Ra.wpA_done (by kernel_rfl) ?_ _
 have ch7 := heap_setCell_same w6 hb 0 _ _ (.slice (some ⟨g2, 0, none⟩) (l.length + 1) c2) ch6
 have K7 := K6.out.setCell (j := 0) (.inl (show hb = hb ∨ v0.ownBlock = some hb from .inl rfl)) (.slice (some ⟨g2, 0, none⟩) (l.length + 1) c2)
 have kF : Keep (fun j => j = hb) w6 (w6.setCell ⟨hb, 0, none⟩ (.slice (some ⟨g2, 0, none⟩) (l.length + 1) c2)) := Keep.setCell (S := fun j => j = hb) (Keep.refl _ w6) (.inl rfl) _
 have o7 := kF.row HP6.out (fun g hg e => by (have := own_base HP6.out g hg; omega))
 go_end0
 exact ⟨rfl, _, by simpa using ch7, o7, K7, fun g hg => HG6.out g (by injection hg with hg; exact hg.symm)⟩
set_option maxRecDepth 100000 in
set_option maxHeartbeats 4000000 in
theorem hadd1 (w : World) (base hb : Nat) (v0 v1 : Value) (l : List Cel) (c : Cel) (hh : w.heap[hb]? = some (.cells #[v0, v1] 292 (0, 0))) (ho : w.ownsRow base 33 4 v1 l.length (flatC l)) (hbb : hb < base) (hbs : base ≤ w.heap.size) (hl : l.length ≤ 10000) :
 Calls Tryz.prog 198 #[.pointer (some ⟨hb, 0, none⟩), .int .i64 1, c.v] w fun e w' => e = .returned (.tuple #[]) ∧ ∃ v', w'.heap[hb]? = some (.cells #[v0, v'] 292 (0, 0)) ∧
  w'.ownsRow base 33 4 v' (l ++ [c]).length (flatC (l ++ [c])) ∧ Keep (fun j => j = hb ∨ v1.ownBlock = some j) w w' ∧ ∀ g, v'.ownBlock = some g → v1.ownBlock = some g ∨ w.heap.size ≤ g := by
 obtain ⟨i1, hig, hy0, hy1, hy2⟩ := info_parts info_cell
 have hfl : flatC (l ++ [c]) = flatC l ++ [.string (str c.key), .string (str c.val), .int .i64 (c.blob : Nat), .int .i64 (c.size : Nat)] := by simp [flatC, Cel.cells]
 rw [hfl, List.length_append]
 simp only [Cel.v]
 obtain ⟨U1, hU1⟩ : ∃ U, U = str c.key := ⟨_, rfl⟩
 obtain ⟨U2, hU2⟩ : ∃ U, U = str c.val := ⟨_, rfl⟩
 obtain ⟨xb, hxb⟩ : ∃ b : Int, b = (c.blob : Nat) := ⟨_, rfl⟩
 obtain ⟨xz, hxz⟩ : ∃ b : Int, b = (c.size : Nat) := ⟨_, rfl⟩
 rw [← hU1, ← hU2, ← hxb, ← hxz]
 have lh := lt_of_block hh
 have H0 := Lib.hid (hal (o := celO U1 U2 xb xz) hh)
 have Z0 := Lib.hid (heap_alloc_new w (celO U1 U2 xb xz))
 have O0 := Lib.hid (ho.alloc (celO U1 U2 xb xz))
 have HO := Lib.hid ho
 clear hU1 hU2 hxb hxz hfl hh ho
 go_enter Tryz.func198, Tryz.ntmps198
 go_wp2_with fail
 obtain ⟨w1, hw1⟩ : ∃ w1, w1 = w.alloc (celO U1 U2 xb xz) := ⟨_, rfl⟩
 rw [← hw1] at H0 Z0 O0 ⊢
 have K1 : Hid (Keep (fun j => j = hb ∨ v1.ownBlock = some j) w w1) := Lib.hid (hw1 ▸ Keep.of_below (below_al (Below.refl _ w) _))
 have hs1 : w1.heap.size = w.heap.size + 1 := by rw [hw1]; simp
 have Hs1 := Lib.hid hs1
 have N1 : Hid (w1.drew.ownsRow base 33 4 v1 l.length (flatC l)) := Lib.hid O0.out
 clear hw1 hs1
 refine Ra.wp_region_A (S := (Bz w1)) [7, 8, 9] (by kernel_rfl) (below_dr (Below.refl _ _)) (fun hHeld => ?_)
 refine Ra.WT 0 ?_ ?_ ?_
 rotate_left
 · intro wq hSw
   go_simp
   try with_reducible rfl
 try simp only [Act.put, List.getElem_toArray, List.getElem_cons_succ, List.getElem_cons_zero, List.setIfInBounds_toArray, List.set_cons_zero, List.set_cons_succ]
 refine Ra.WT 1 ?_ ?_ ?_
 rotate_left
 · intro wq hSw
   go_simp
   try with_reducible rfl
 try simp only [Act.put, List.getElem_toArray, List.getElem_cons_succ, List.getElem_cons_zero, List.setIfInBounds_toArray, List.set_cons_zero, List.set_cons_succ]
 refine Ra.WT 2 ?_ ?_ ?_
 rotate_left
 · intro wq hSw
   go_simp
   try with_reducible rfl
 try simp only [Act.put, List.getElem_toArray, List.getElem_cons_succ, List.getElem_cons_zero, List.setIfInBounds_toArray, List.set_cons_zero, List.set_cons_succ]
 refine Ra.WT 3 ?_ ?_ ?_
 rotate_left
 · intro wq hSw
   go_simp
   try with_reducible rfl
 try simp only [Act.put, List.getElem_toArray, List.getElem_cons_succ, List.getElem_cons_zero, List.setIfInBounds_toArray, List.set_cons_zero, List.set_cons_succ]
 refine Ra.WT 4 ?_ ?_ ?_
 rotate_left
 · intro wq hSw
   go_simp
   try with_reducible rfl
 try simp only [Act.put, List.getElem_toArray, List.getElem_cons_succ, List.getElem_cons_zero, List.setIfInBounds_toArray, List.set_cons_zero, List.set_cons_succ]
 refine Ra.WT 5 ?_ ?_ ?_
 rotate_left
 · intro wq hSw
   go_simp
   try with_reducible rfl
 try simp only [Act.put, List.getElem_toArray, List.getElem_cons_succ, List.getElem_cons_zero, List.setIfInBounds_toArray, List.set_cons_zero, List.set_cons_succ]
 refine Ra.WT 6 ?_ ?_ ?_
 rotate_left
 · intro wq hSw
   go_simp
   try with_reducible rfl
 try simp only [Act.put, List.getElem_toArray, List.getElem_cons_succ, List.getElem_cons_zero, List.setIfInBounds_toArray, List.set_cons_zero, List.set_cons_succ]
 refine Ra.WT 11 ?_ ?_ ?_
 rotate_left
 · intro wq hSw
   go_simp
   try with_reducible rfl
 try simp only [Act.put, List.getElem_toArray, List.getElem_cons_succ, List.getElem_cons_zero, List.setIfInBounds_toArray, List.set_cons_zero, List.set_cons_succ]
 refine Ra.WT 12 ?_ ?_ ?_
 rotate_left
 · intro wq hSw
   go_simp
   try with_reducible rfl
 try simp only [Act.put, List.getElem_toArray, List.getElem_cons_succ, List.getElem_cons_zero, List.setIfInBounds_toArray, List.set_cons_zero, List.set_cons_succ]
 refine Ra.WA 7 ?_ ?_ hHeld ?_
 rotate_left
 · intro wq hSw
   have hSc := blk_cell (blk_keep H0.out hSw); have hSl := lt_of_block (blk_keep H0.out hSw); have hSd := blk_cell (blk_keep Z0.out hSw); have hSe := lt_of_block (blk_keep Z0.out hSw)
   go_simp
   try with_reducible rfl
 try simp only [Act.put, List.getElem_toArray, List.getElem_cons_succ, List.getElem_cons_zero, List.setIfInBounds_toArray, List.set_cons_zero, List.set_cons_succ]
 refine Ra.WA 8 ?_ ?_ hHeld ?_
 rotate_left
 · intro wq hSw
   have hSc := blk_cell (blk_keep H0.out hSw); have hSl := lt_of_block (blk_keep H0.out hSw); have hSd := blk_cell (blk_keep Z0.out hSw); have hSe := lt_of_block (blk_keep Z0.out hSw)
   go_simp
   try with_reducible rfl
 try simp only [Act.put, List.getElem_toArray, List.getElem_cons_succ, List.getElem_cons_zero, List.setIfInBounds_toArray, List.set_cons_zero, List.set_cons_succ]
 refine Ra.wpA_ready (rs := [9]) (by kernel_rfl) (by simp) ?_
 refine Ra.AllReadyA.cons rfl (fun K hK => ?_) Ra.AllReadyA.nil
 rw [if_pos (by kernel_rfl)]
 go_simp
 skip
 refine hK.out _ _ (below_al hHeld _) (fun hHeld2 => ?_)
 clear hK K
 try clear hHeld
 have hHeld := hHeld2
 try clear hHeld2
 refine Ra.wpA_ready (rs := [10]) (by kernel_rfl) (by simp) ?_
 refine Ra.AllReadyA.late rfl rfl (fun K hK => ?_) Ra.AllReadyA.nil
 refine step_append_lies _ rfl _ _ _ rfl base 33 i1 (.agg #[.string ⟨#[]⟩, .string ⟨#[]⟩, .int .i64 0, .int .i64 0]) 4 48 Tryz.underlying142 hig hy0 hy1 hy2 rfl (by decide) v1 l.length _ rfl (N1.out.alloc _) ⟨w1.heap.size, 0, none⟩ 1 1 [.string U1, .string U2, .int .i64 xb, .int .i64 xz] rfl rfl (cells_blk (heap_alloc_new w1.drew (celO U1 U2 xb xz))) (by intro u hu; simp at hu; rcases hu with rfl | rfl | rfl | rfl <;> rfl) (by omega) (by unfold maxLen; omega) (by omega) (by have := Hs1.out; simp; omega) _ rfl ?_
 intro g2 c2 w6 ho2 hg2 hat2 hl2
 have k9 := Keep.grown (S := fun k => v1.ownBlock = some k) hg2 (fun j h => h)
 have HP6 := Lib.hid ho2
 have HG6 : Hid (∀ g, g = g2 → v1.ownBlock = some g ∨ w.heap.size ≤ g) := Lib.hid (fun g e => by (subst e; rcases hat2 with h1 | h1; exact .inl h1; exact .inr (by have h2 := h1; have := Hs1.out; simp at h2; omega)))
 have ch6 := k9.blk (hal (o := celO U1 U2 xb xz) (show w1.drew.heap[hb]? = _ from H0.out)) (fun e => by have := own_base HO.out _ e; omega)
 have K6 : Hid (Keep (fun j => j = hb ∨ v1.ownBlock = some j) w w6) := Lib.hid ((K1.out.below (below_al (below_dr (Below.refl _ w1)) (celO U1 U2 xb xz))).trans (k9.mono (fun j h => .inr h)))
 have cc6 := blk_cell ch6
 have fc6 := blk_free ch6
 have lc6 := lt_of_block ch6
 clear ho2 hg2 hat2 k9
 refine hK.out _ _ (trivial) (fun hHeld2 => ?_)
 clear hK K
 try clear hHeld
 have hHeld := hHeld2
 try clear hHeld2
 refine Ra.WT 13 ?_ ?_ ?_
 rotate_left
 · intro wq hSw
   go_simp
   try with_reducible rfl
 try simp only [Act.put, List.getElem_toArray, List.getElem_cons_succ, List.getElem_cons_zero, List.setIfInBounds_toArray, List.set_cons_zero, List.set_cons_succ]
 refine Ra.wpA_ready (rs := [14]) (by kernel_rfl) (by simp) ?_
 refine Ra.AllReadyA.late rfl rfl (fun K hK => ?_) Ra.AllReadyA.nil
 rw [if_pos (by kernel_rfl)]
 go_simp
 skip
 refine hK.out _ _ (trivial) (fun hHeld2 => ?_)
 clear hK K
 try clear hHeld
 have hHeld := hHeld2
 try clear hHeld2
 refine Ra.wpA_done (by kernel_rfl) ?_ _
 have ch7 := heap_setCell_same w6 hb 1 _ _ (.slice (some ⟨g2, 0, none⟩) (l.length + 1) c2) ch6
 have K7 := K6.out.setCell (j := 1) (.inl (show hb = hb ∨ v1.ownBlock = some hb from .inl rfl)) (.slice (some ⟨g2, 0, none⟩) (l.length + 1) c2)
 have kF : Keep (fun j => j = hb) w6 (w6.setCell ⟨hb, 1, none⟩ (.slice (some ⟨g2, 0, none⟩) (l.length + 1) c2)) := Keep.setCell (S := fun j => j = hb) (Keep.refl _ w6) (.inl rfl) _
 have o7 := kF.row HP6.out (fun g hg e => by (have := own_base HP6.out g hg; omega))
 go_end0
 exact ⟨rfl, _, by simpa using ch7, o7, K7, fun g hg => HG6.out g (by injection hg with hg; exact hg.symm)⟩
end Go.Proofs.YtijhamllnnilbaaGreatDoor.Ha
namespace Go.Proofs.YtijhamllnnilbaaGreatDoor.Ha
open Go.RowKit Go.Proofs.YtijhamllnnilbaaGreatDoor.Mem Go.Proofs.YtijhamllnnilbaaGreatDoor.Pg Go.Proofs.YtijhamllnnilbaaGreatDoor.Kp Go.Proofs.YtijhamllnnilbaaGreatDoor.Sp Go.Proofs.YtijhamllnnilbaaGreatDoor.Gr
set_option linter.unusedSimpArgs false
set_option linter.unusedVariables false
theorem perm_sorted : ∀ {m l : List Cel}, l.Perm m → SortedK Cel.key l → Sorted m → l = m
 | [], l, hp, _, _ => hp.eq_nil
 | a :: m, [], hp, _, _ => absurd hp.length_eq (by simp)
 | a :: m, b :: l, hp, hl, hm => by
  have hab : b = a := by
   have h1 : b ∈ a :: m := hp.subset (List.mem_cons_self ..)
   have h2 : a ∈ b :: l := hp.symm.subset (List.mem_cons_self ..)
   rcases List.mem_cons.1 h1 with h | h
   · exact h
   rcases List.mem_cons.1 h2 with h' | h'
   · exact h'.symm
   · exact absurd (hm.head b h) ((List.pairwise_cons.1 hl).1 a h')
  subst hab
  rw [perm_sorted (List.Perm.cons_inv hp) (List.pairwise_cons.1 hl).2 hm.tail]
set_option maxRecDepth 100000 in
set_option maxHeartbeats 4000000 in
theorem filled_ok (w : World) (base : Nat) (v : Value) (l m : List Cel) (d : Nat) (h : w.ownsRow base 33 4 v l.length (flatC l)) (hp : m.Perm l) (hf : Fits m) :
 Calls Tryz.prog 146 #[.int .i64 d, v] w fun e w' => e = .returned (⟨3, (d : Nat), 0, bodyF m⟩ : Pag).v ∧ Below w.heap.size w w' := by
 have hlen : l.length ≤ 59 := by rw [← hp.length_eq]; exact hf.len
 have hem := fun W => empty_any 3 d W
 have hsort := fun W base (h : World.ownsRow W base 33 4 v l.length (flatC l)) => (sorted_ok W base v l h (by omega)).mono (R' := fun e w' => ∃ A cap, e = .returned (.slice A m.length cap) ∧ Cels w' A m ∧ Below W.heap.size W w') (fun e w' ⟨A, cap, l', h1, h2, h3, h4, h5⟩ => by
  have e1 : l' = m := perm_sorted (h3.trans hp.symm) h4 hf.sorted
  subst e1
  exact ⟨A, cap, by rw [h1, hp.length_eq], Cels.of_own h2, h5⟩)
 have hput := fun W A cap (hA : Cels W A m) => putAll_any A m.length cap m W rfl (by have := hf.len; omega) hA hf.ok hf.sorted
 unfold putRes at hput
 rw [if_pos hf.room] at hput
 simp only [Pag.v]
 obtain ⟨S, hS⟩ : ∃ S, S = str (bodyF m) := ⟨_, rfl⟩
 obtain ⟨Z, hZ⟩ : ∃ Z, Z = str (zs 240) := ⟨_, rfl⟩
 rw [← hS] at hput ⊢
 rw [← hZ] at hem
 have H0 := Lib.hid h
 clear h hp hf hS hZ
 go_enter Tryz.func146, Tryz.ntmps146
 go_wp2_with fail
 with_reducible refine (hem _).mono ?_
 rintro e w1 ⟨rfl, hb1⟩
 have y1 := hal (o := pagO 3 d 0 Z) (blk_keep (heap_alloc_new w zpO) hb1)
 have z1 := heap_alloc_new w1 (pagO 3 d 0 Z)
 have hw1 : w.heap.size < w1.heap.size := by have := hb1.size; simp at this; omega
 have B1 := Lib.hid (below_al (below_base (below_al (Below.refl _ w) zpO) (by simp) hb1) (pagO 3 d 0 Z))
 have Y1 := Lib.hid y1
 have Z1 := Lib.hid z1
 have H1 := Lib.hid (own_below H0.out B1.out)
 clear hb1 z1 y1 hem
 go_wp2_with fail
 with_reducible refine (hsort _ _ H1.out).mono ?_
 rintro e w2 ⟨A, cap, rfl, hA, hb2⟩
 have Y2 := Lib.hid (blk_keep Y1.out hb2)
 have Z2 := Lib.hid (blk_keep Z1.out hb2)
 have B2 := Lib.hid (below_base B1.out B1.out.size hb2)
 have hp2 := hput _ _ cap hA
 clear hA hb2 hsort hput
 go_wp2_with fail
 with_reducible refine hp2.mono ?_
 rintro e w3 ⟨rfl, hb3⟩
 have y3 := blk_keep Y2.out hb3
 have z3 := blk_keep Z2.out hb3
 have B3 := Lib.hid (below_base B2.out B2.out.size hb3)
 have cz := blk_cell z3
 have fz := blk_free z3
 have lz := lt_of_block z3
 have z4 := heap_setCell_same w3 w1.heap.size 3 _ _ (.string S) z3
 have y4 : (w3.setCell ⟨w1.heap.size, 3, none⟩ (.string S)).heap[w.heap.size]? = some zpO := (heap_setCell_other _ _ _ _ (show w.heap.size ≠ w1.heap.size by omega)).trans y3
 have cz4 := blk_cell z4
 have lz4 := lt_of_block z4
 have cy4 := blk_cell y4
 have fy4 := blk_free y4
 have ly4 := lt_of_block y4
 have B4 := Lib.hid (below_set (g := w1.heap.size) (j := 3) (u := .string S) B3.out (by omega))
 have y5 := set4_same y4 (.int .i64 3) (.int .i64 d) (.int .i64 0) (.string S)
 have cy5 := blk_cell y5
 have B5 := Lib.hid (below_set4 B4.out (Nat.le_refl _) (.int .i64 3) (.int .i64 d) (.int .i64 0) (.string S))
 clear y3 z3 hb3 hp2 z4 y4 y5
 go_wp2_with fail
 refine bodyPost_ret (v := .agg #[.int .i64 3, .int .i64 d, .int .i64 0, .string S]) (by simp [results, Tryz.results146, go_sem, cy5]) rfl ?_
 exact ⟨rfl, B5.out⟩
end Go.Proofs.YtijhamllnnilbaaGreatDoor.Ha
