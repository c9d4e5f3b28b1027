/- Lemmas of the claim, in their order:
- The contract of hash.Format.
- The contract of slices.Clone at cells.
- The sort of cell.Fits: its compare function is another number.
- The contract of hash.sorted.
- The contract of reach.add.
-/
import Derived.Test.YtijhamllnnilbaaGreatDoorP28
import Derived.Lib.SliceRun
set_option linter.unusedVariables false
set_option linter.unusedSimpArgs false
namespace Go.Proofs.YtijhamllnnilbaaGreatDoor.Ha
open Go.RowKit Go.Proofs.YtijhamllnnilbaaGreatDoor.Mem Go.Proofs.YtijhamllnnilbaaGreatDoor.Pg Go.Proofs.YtijhamllnnilbaaGreatDoor.Kp Go.Proofs.YtijhamllnnilbaaGreatDoor.Sp Go.Proofs.YtijhamllnnilbaaGreatDoor.Gr
set_option linter.unusedSimpArgs false
set_option linter.unusedVariables false
theorem wp_world {P : Program} {c : Code} {Q : Exit → Act → World → Prop} {f : Act} {a b : World} (h : b = a) (k : Code.wp P c Q f b) : Code.wp P c Q f a := h ▸ k
def fmtL (n : Nat) : List UInt8 := (newL n).set 2 1
theorem take_new (n : Nat) (h8 : 8 ≤ n) (h64 : n ≤ 64) : takeI 2 (newL n) = 2 ∧ pagesF 2 (newL n) = n := by
 have hm := isMap_new n h8 h64
 have hb := bt_newL n (by omega)
 refine ⟨?_, pagesF_map hm⟩
 rcases takeI_map hm with ⟨_, h1⟩ | ⟨i, h1, h2, h3, h4, h5⟩
 · have := h1 2 (by omega)
   rw [hb 2, if_pos (by omega), if_neg (by omega)] at this
   omega
 · have : i = 2 := by
    rcases Nat.lt_or_ge 2 i with h6 | h6
    · have := h5 2 h6
      rw [hb 2, if_pos (by omega), if_neg (by omega)] at this
      omega
    · omega
   rw [h1, this]; rfl
set_option maxRecDepth 100000 in
set_option maxHeartbeats 4000000 in
theorem format_ok (n : Nat) (w : World) (h8 : 8 ≤ n) (h64 : n ≤ 64) :
 Calls Tryz.prog 35 #[.int .i64 n] w fun e w' => ∃ g, e = .returned (.tuple #[.slice (some ⟨g, 0, none⟩) 3 3, .bool true]) ∧ w.heap.size ≤ g ∧
  w'.heap[g]? = some (.cells #[.int .i64 1, .int .i64 0, .int .i64 0, .string (str (Dr.bodyOf [2])), .int .i64 2, .int .i64 0, .int .i64 0, .string (str (fmtL n)), .int .i64 3, .int .i64 0, .int .i64 0, .string (str (zs 240))] 113 (0, 0)) ∧ Below w.heap.size w w' := by
 obtain ⟨ht, hp⟩ := take_new n h8 h64
 have hnew := new_ok n w h8 h64
 have hdir := fun W => Dr.new_yes 2 W (by decide)
 have htk := fun W => take_ok 2 0 0 (newL n) W (by rw [newL_len]; omega) 2 ht (by rw [hp]; omega)
 have hem := fun W => empty_any 3 0 W
 change ∀ W, Calls _ _ #[.agg #[_, _, _, .string (str (newL n))]] _ _ at htk
 rw [show (newL n).set 2 1 = fmtL n from rfl] at htk
 generalize str (fmtL n) = F at *
 generalize str (newL n) = L at *
 generalize str (Dr.bodyOf [2]) = E at *
 generalize str (zs 240) = Z at *
 clear ht hp
 go_enter Tryz.func35, Tryz.ntmps35
 go_wp2_with fail
 with_reducible refine hnew.mono ?_
 rintro e w1 ⟨rfl, hb1⟩
 have z1 := heap_alloc_new w1 (pagO 2 0 0 L)
 have B1 := Lib.hid (below_al hb1 (pagO 2 0 0 L))
 have Z1 := Lib.hid z1
 have hw1 := hb1.size
 clear hb1 z1 hnew
 go_wp2_with fail
 with_reducible refine (hdir _).mono ?_
 rintro e w2 ⟨rfl, hb2⟩
 have z2 := hal (o := pagO 1 0 0 E) (blk_keep Z1.out hb2)
 have y2 := heap_alloc_new w2 (pagO 1 0 0 E)
 have B2 := Lib.hid (below_al (below_base B1.out B1.out.size hb2) (pagO 1 0 0 E))
 have Z2 := Lib.hid z2
 have Y2 := Lib.hid y2
 have cz2 := blk_cell z2
 have lz2 := lt_of_block z2
 have hw2 : w1.heap.size < w2.heap.size := by have := hb2.size; simp at this; omega
 clear hb2 z2 y2 hdir
 go_wp2_with fail
 with_reducible refine (htk _).mono ?_
 rintro e w3 ⟨rfl, hb3⟩
 have z3 := blk_keep Z2.out hb3
 have y3 := blk_keep Y2.out hb3
 have cz3 := blk_cell z3
 have fz3 := blk_free z3
 have lz3 := lt_of_block z3
 have B3 := Lib.hid (below_base B2.out B2.out.size hb3)
 have Z3 := Lib.hid z3
 have Y3 := Lib.hid y3
 clear hb3 z3 y3 cz2 lz2 htk
 go_wp2_with fail
 obtain ⟨w4, hw4⟩ : ∃ w4, w4 = set4 w3 w1.heap.size (.int .i64 2) (.int .i64 0) (.int .i64 0) (.string F) := ⟨_, rfl⟩
 have Z4 : Hid (w4.heap[w1.heap.size]? = some (pagO 2 0 0 F)) := Lib.hid (by rw [hw4]; exact set4_same Z3.out _ _ _ _)
 have Y4 : Hid (w4.heap[w2.heap.size]? = some (pagO 1 0 0 E)) := Lib.hid (by rw [hw4]; exact hs4 Y3.out (by omega))
 have B4 : Hid (Below w.heap.size w w4) := Lib.hid (by rw [hw4]; exact below_set4 B3.out hw1 _ _ _ _)
 refine wp_world hw4 ?_
 clear hw4 cz3 fz3 lz3
 refine wp_region_held_drew (S := (Bz w4)) (by kernel_rfl) (below_dr (Below.refl _ _)) (fun hHeld => ?_)
 refine Ra.W 0 ?_ ?_ hHeld ?_
 rotate_left
 · intro wq hSw
   have hSc := blk_cell (blk_keep Z4.out hSw); have hSl := lt_of_block (blk_keep Z4.out hSw); have hSd := blk_cell (blk_keep Y4.out hSw); have hSe := lt_of_block (blk_keep Y4.out hSw)
   go_simp
   try with_reducible rfl
 try simp only [Act.put, pX]
 refine Ra.W 1 ?_ ?_ hHeld ?_
 rotate_left
 · intro wq hSw
   have hSc := blk_cell (blk_keep Z4.out hSw); have hSl := lt_of_block (blk_keep Z4.out hSw); have hSd := blk_cell (blk_keep Y4.out hSw); have hSe := lt_of_block (blk_keep Y4.out hSw)
   go_simp
   try with_reducible rfl
 try simp only [Act.put, pX]
 refine wpAnyH_ready (rs := [2]) (by kernel_rfl) (by simp) ?_
 refine AllReadyH.cons rfl (fun K hK => ?_) AllReadyH.nil
 rw [if_pos (by kernel_rfl)]
 go_simp
 (with_reducible refine (hem _).mono ?_)
 rintro e w6 ⟨rfl, hb6⟩
 have H6 := below_tr hHeld hb6
 go_simp
 refine hK.out _ _ (below_tr hHeld hb6) (fun hHeld2 => ?_)
 clear hK K
 try clear hHeld
 have hHeld := hHeld2
 try clear hHeld2
 refine wpAnyH_ready (rs := [3]) (by kernel_rfl) (by simp) ?_
 refine AllReadyH.cons rfl (fun K hK => ?_) AllReadyH.nil
 rw [if_pos (by kernel_rfl)]
 go_simp
 skip
 refine hK.out _ _ (below_al H6 _) (fun hHeld2 => ?_)
 clear hK K
 try clear hHeld
 have hHeld := hHeld2
 try clear hHeld2
 refine Ra.W 4 ?_ ?_ hHeld ?_
 rotate_left
 · intro wq hSw
   go_simp
   try with_reducible rfl
 try simp only [Act.put, pX]
 refine Ra.W 5 ?_ ?_ hHeld ?_
 rotate_left
 · intro wq hSw
   go_simp
   try with_reducible rfl
 try simp only [Act.put, pX]
 refine wpAnyH_done (by kernel_rfl) ?_ _
 have B7 := Lib.hid (below_base B4.out B4.out.size hHeld)
 have hz := heap_alloc_new w6 (.cells #[.int .i64 1, .int .i64 0, .int .i64 0, .string E, .int .i64 2, .int .i64 0, .int .i64 0, .string F, .int .i64 3, .int .i64 0, .int .i64 0, .string Z] 113)
 have HZ := Lib.hid hz
 have hg : Hid (w.heap.size ≤ w6.heap.size) := Lib.hid (below_base B4.out B4.out.size H6).size
 clear hHeld hz H6 hb6
 go_wp2_with fail
 go_ret2
 exact ⟨_, rfl, hg.out, HZ.out, B7.out⟩
end Go.Proofs.YtijhamllnnilbaaGreatDoor.Ha
namespace Go.Proofs.YtijhamllnnilbaaGreatDoor.Ha
open Go.RowKit Go.Proofs.YtijhamllnnilbaaGreatDoor.Mem Go.Proofs.YtijhamllnnilbaaGreatDoor.Pg Go.Proofs.YtijhamllnnilbaaGreatDoor.Kp Go.Proofs.YtijhamllnnilbaaGreatDoor.Sp Go.Proofs.YtijhamllnnilbaaGreatDoor.Gr
set_option linter.unusedSimpArgs false
set_option linter.unusedVariables false
set_option maxRecDepth 100000 in
set_option maxHeartbeats 4000000 in
theorem clone_ok (w : World) (base : Nat) (v : Value) (l : List Cel) (h : w.ownsRow base 33 4 v l.length (flatC l)) (hl : l.length ≤ 10000) :
 Calls Tryz.prog 251 #[v] w fun e w' => ∃ A cap, e = .returned (.slice A l.length cap) ∧ w'.ownsRow w.heap.size 33 4 (.slice A l.length cap) l.length (flatC l) ∧ Below w.heap.size w w' := by
 obtain ⟨i0, hi, hz0, hz1, hz2⟩ := info_parts info_cell
 have hE := fun (W : World) (a : Option Addr) (n c : Nat) => run_eql_slice_nil (P := Tryz.prog) W 142 33 a n c Tryz.underlying142
 rcases h.2 with ⟨rfl, h0⟩ | ⟨g, cap, cur, rfl, _, hg, _⟩
 · have hl0 : l = [] := List.length_eq_zero_iff.1 h0
   subst hl0
   have B0 := Lib.hid (Below.refl w.heap.size w)
   clear h
   go_enter Tryz.func251, Tryz.ntmps251
   go_wp2_with fail
   first | go_ret | skip
   exact ⟨none, 0, rfl, ⟨rfl, .inl ⟨rfl, rfl⟩⟩, B0.out⟩
 · by_cases h0 : l = []
   · subst h0
     have hrun := fun ty (W : World) => run_append_none (P := Tryz.prog) W 142 ty 33 i0 Tryz.underlying142 hi (some ⟨w.heap.size, 0, none⟩) (some ⟨g, 0, none⟩) 0 0 cap (Nat.le_refl _)
     have B1 := Lib.hid (below_al (Below.refl _ w) (.cells #[] 33))
     have hz := Lib.hid (heap_alloc_new w (.cells #[] 33))
     clear h
     go_enter Tryz.func251, Tryz.ntmps251
     go_wp2_with (at_builtin; refine Lib.wpList_append_run _ rfl _ _ _ _ rfl _ _ rfl rfl _ _ (hrun _ _) ?_)
     go_ret
     exact ⟨_, 0, rfl, ⟨rfl, .inr ⟨w.heap.size, 0, #[], rfl, Nat.le_refl _, hz.out, Nat.le_refl _, Nat.zero_le _, rfl, rfl⟩⟩, B1.out⟩
   · have hpos : 0 < l.length := List.length_pos_iff.2 h0
     have o1 := h.alloc (.cells #[] 33)
     have hz := heap_alloc_new w (.cells #[] 33)
     have oz : (w.alloc (.cells #[] 33)).ownsRow w.heap.size 33 4 (.slice (some ⟨w.heap.size, 0, none⟩) 0 0) 0 (flatC []) := ⟨rfl, .inr ⟨w.heap.size, 0, #[], rfl, Nat.le_refl _, hz, Nat.le_refl _, Nat.zero_le _, rfl, rfl⟩⟩
     have B1 := below_al (Below.refl _ w) (.cells #[] 33)
     clear hz hg
     go_enter Tryz.func251, Tryz.ntmps251
     go_wp2_with (at_builtin; refine wpList_append_own _ rfl (.tmp 5) (.tmp 6) _ rfl w.heap.size 33 i0 (.agg #[.string ⟨#[]⟩, .string ⟨#[]⟩, .int .i64 0, .int .i64 0]) 4 48 Tryz.underlying142 hi hz0 hz1 hz2 rfl (by decide) _ 0 (flatC []) rfl oz ⟨g, 0, none⟩ l.length cap (flatC l) rfl (flatC_len l) (fun r u hr => o1.cells (g := g) rfl r u hr) (cel_one l) (by unfold maxLen; omega) (by omega) (by simp) ?_; intro v' w4 own4 grow4 _)
     have B4 := below_grown (b := w4) B1 (by simp) oz grow4
     have own5 : w4.ownsRow w.heap.size 33 4 v' l.length (flatC l) := by rw [Nat.zero_add] at own4; exact own4
     obtain ⟨A', c', rfl⟩ := own_slice own5
     go_ret
     exact ⟨A', c', rfl, own5, B4⟩
end Go.Proofs.YtijhamllnnilbaaGreatDoor.Ha
namespace Go.Proofs.YtijhamllnnilbaaGreatDoor.Ha
open Go.RowKit Go.Proofs.YtijhamllnnilbaaGreatDoor.Mem Go.Proofs.YtijhamllnnilbaaGreatDoor.Pg Go.Proofs.YtijhamllnnilbaaGreatDoor.Kp Go.Sort Go.Shelf
set_option linter.unusedSimpArgs false
set_option linter.unusedVariables false
set_option maxRecDepth 100000 in
theorem cmpFits (x y : Cel) (w : World) :
 Calls Tryz.prog 265 #[x.v, y.v] w fun e w' => e = .returned (.int .i64 (Lib.compareBytes x.key y.key)) ∧ w' = (w.alloc (celO (str x.key) (str x.val) x.blob x.size)).alloc (celO (str y.key) (str y.val) y.blob y.size) := by
 have hcmp := fun W => Tryz.strings_Compare (str x.key) (str y.key) W
 have e1 : (str x.key).data.toList = x.key := rfl
 have e2 : (str y.key).data.toList = y.key := rfl
 rw [e1, e2] at hcmp
 simp only [Cel.v]
 obtain ⟨U1, hU1⟩ : ∃ U, U = str x.key := ⟨_, rfl⟩
 obtain ⟨U2, hU2⟩ : ∃ U, U = str x.val := ⟨_, rfl⟩
 obtain ⟨V1, hV1⟩ : ∃ U, U = str y.key := ⟨_, rfl⟩
 obtain ⟨V2, hV2⟩ : ∃ U, U = str y.val := ⟨_, rfl⟩
 rw [← hU1, ← hU2, ← hV1, ← hV2]
 rw [← hU1, ← hV1] at hcmp
 generalize Lib.compareBytes x.key y.key = R at *
 clear hU1 hU2 hV1 hV2 e1 e2
 have z1 := blk_a1 w #[.string U1, .string U2, .int .i64 (x.blob : Int), .int .i64 (x.size : Int)] 33 (celO V1 V2 y.blob y.size)
 have z2 := blk_a2 w (celO U1 U2 x.blob x.size) #[.string V1, .string V2, .int .i64 (y.blob : Int), .int .i64 (y.size : Int)] 33
 have c1 := blk_cell z1
 have c2 := blk_cell z2
 have l1 := lt_of_block z1
 have l2 := lt_of_block z2
 clear z1 z2
 go_enter Tryz.func265, Tryz.ntmps265
 go_wp2_with fail
 with_reducible refine (hcmp _).mono ?_
 rintro e w2 ⟨rfl, rfl⟩
 go_wp2_with fail
 go_ret
 exact ⟨rfl, rfl⟩
theorem sortFits_ok (w : World) (base g n cap : Nat) (l : List Cel) (h : w.ownsRow base 33 4 (.slice (some ⟨g, 0, none⟩) n cap) n (flatC l)) (hn : n = l.length) (hl : n ≤ 100000) :
 Calls Tryz.prog 252 #[.slice (some ⟨g, 0, none⟩) n cap, .func (.func 265) #[] #[]] w fun e w' =>
  e = .returned (.tuple #[]) ∧ ∃ l' : List Cel, l'.Perm l ∧ SortedK Cel.key l' ∧ w'.ownsRow base 33 4 (.slice (some ⟨g, 0, none⟩) n cap) n (flatC l') ∧ Keep (fun j => j = g) w w' := by
 have eg : ∀ args w, (callFunc 265 args).run Tryz.prog w = .ok (.enter 265 args) w := enters_of Tryz.func265 (by kernel_rfl) rfl
 have hcmp : CmpLays Tryz.prog 265 #[] Cel.cells 4 (fun x y => Lib.compareBytes x.key y.key) g 0 l.toArray.size w := fun _ _ _ _ x y =>
  (cmpFits x y _).mono fun e w' ⟨h1, h2⟩ => ⟨h1, 0, _, h2.trans (al2_grow _ _ _)⟩
 have hcon := AnyQ.slices_SortFunc Tryz.sortCell 4 Tryz.isAgg33 Tryz.sizeOf33 Cel.cells (fun _ => rfl) (fun x v hv => by simp [Cel.cells] at hv; rcases hv with rfl | rfl | rfl | rfl <;> rfl) (fun x y => Lib.compareBytes x.key y.key) (swo_key Cel.key) 265 #[] g 0 cap l.toArray w eg hcmp (holdsK_own Cel.cells (fun _ => rfl) h hn) (own_lt h g rfl) (by simp; omega)
 change Calls Tryz.prog 252 _ _ _ at hcon
 have hsz : l.toArray.size = n := by simp [hn]
 rw [hsz] at hcon
 refine hcon.mono ?_
 rintro e w' ⟨rfl, d', m, os, hp, hs, rfl⟩
 have hd : d'.size = n := by have := hp.1; simp at this; omega
 refine ⟨rfl, d'.toList, ?_, sortedIn_list Cel.key d' (by rw [hd]; exact hs), ownsRow_sortedK Cel.cells (fun _ => rfl) h hn hd, keep_sortedK _ _⟩
 have h2 := hp.2.2
 have e1 : d'.extract 0 n = d' := by rw [← hd]; exact Array.extract_size
 have e2 : l.toArray.extract 0 n = l.toArray := by rw [← hsz]; exact Array.extract_size
 rw [e1, e2] at h2
 exact h2
end Go.Proofs.YtijhamllnnilbaaGreatDoor.Ha
namespace Go.Proofs.YtijhamllnnilbaaGreatDoor.Ha
open Go.RowKit Go.Proofs.YtijhamllnnilbaaGreatDoor.Mem Go.Proofs.YtijhamllnnilbaaGreatDoor.Pg Go.Proofs.YtijhamllnnilbaaGreatDoor.Kp Go.Proofs.YtijhamllnnilbaaGreatDoor.Sp Go.Proofs.YtijhamllnnilbaaGreatDoor.Gr
set_option linter.unusedSimpArgs false
set_option linter.unusedVariables false
theorem sortCell_any (w : World) (base n cap : Nat) (A : Option Addr) (l : List Cel) (h : w.ownsRow base 33 4 (.slice A n cap) n (flatC l)) (hn : n = l.length) (hl : n ≤ 100000) :
 Calls Tryz.prog 252 #[.slice A n cap, .func (.func 253) #[] #[]] w fun e w' =>
  e = .returned (.tuple #[]) ∧ ∃ l' : List Cel, l'.Perm l ∧ SortedK Cel.key l' ∧ w'.ownsRow base 33 4 (.slice A n cap) n (flatC l') ∧ Keep (fun j => base ≤ j) w w' := by
 by_cases h0 : n = 0
 · subst h0
   have hl0 : l = [] := List.length_eq_zero_iff.1 hn.symm
   subst hl0
   have hc := AnyF.slices_SortFunc_none Tryz.sortCell A cap (.func (.func 253) #[] #[]) w
   change Calls Tryz.prog 252 _ _ _ at hc
   refine hc.mono ?_
   rintro e w' ⟨rfl, rfl⟩
   exact ⟨rfl, [], List.Perm.refl _, List.Pairwise.nil, h, Keep.refl _ _⟩
 · obtain ⟨g, rfl⟩ : ∃ g, A = some ⟨g, 0, none⟩ := by
    rcases h.2 with ⟨_, h1⟩ | ⟨g, c', cur, h1, _⟩
    · exact absurd h1 h0
    · injection h1 with h1; exact ⟨g, h1⟩
   have hg := own_base h g rfl
   refine (sortCell_ok w base g n cap l h hn hl).mono ?_
   rintro e w' ⟨rfl, l', h1, h2, h3, h4⟩
   exact ⟨rfl, l', h1, h2, h3, h4.mono (fun j hj => by omega)⟩
set_option maxRecDepth 100000 in
set_option maxHeartbeats 4000000 in
theorem sorted_ok (w : World) (base : Nat) (v : Value) (l : List Cel) (h : w.ownsRow base 33 4 v l.length (flatC l)) (hl : l.length ≤ 10000) :
 Calls Tryz.prog 200 #[v] w fun e w' => ∃ A cap l', e = .returned (.slice A l.length cap) ∧ w'.ownsRow w.heap.size 33 4 (.slice A l.length cap) l.length (flatC l') ∧ l'.Perm l ∧ SortedK Cel.key l' ∧ Below w.heap.size w w' := by
 have hcl := clone_ok w base v l h hl
 clear h
 go_enter Tryz.func200, Tryz.ntmps200
 go_wp2_with fail
 with_reducible refine hcl.mono ?_
 rintro e w1 ⟨A, cap, rfl, ho, hb⟩
 have hs := sortCell_any w1 w.heap.size l.length cap A l ho rfl (by omega)
 have HB := Lib.hid hb
 clear ho hb hcl
 go_wp2_with fail
 with_reducible refine hs.mono ?_
 rintro e w2 ⟨rfl, l', h1, h2, h3, h4⟩
 have HF := Lib.hid (And.intro h1 (And.intro h2 (And.intro h3 (HB.out.trans (h4.to_below HB.out.size (fun i hi => hi))))))
 clear h1 h2 h3 h4 hs
 go_wp2_with fail
 go_ret
 exact ⟨A, cap, l', rfl, HF.out.2.2.1, HF.out.1, HF.out.2.1, HF.out.2.2.2⟩
end Go.Proofs.YtijhamllnnilbaaGreatDoor.Ha
namespace Go.Proofs.YtijhamllnnilbaaGreatDoor.Ha
open Go.RowKit Go.Proofs.YtijhamllnnilbaaGreatDoor.Mem Go.Proofs.YtijhamllnnilbaaGreatDoor.Pg Go.Proofs.YtijhamllnnilbaaGreatDoor.Kp Go.Proofs.YtijhamllnnilbaaGreatDoor.Sp Go.Proofs.YtijhamllnnilbaaGreatDoor.Gr
set_option linter.unusedSimpArgs false
set_option linter.unusedVariables false
theorem toI_snoc (V : List Nat) (m : Nat) : (fun j : Int => j == (m : Int) || decide (j ∈ toI V)) = (fun j => decide (j ∈ toI (V ++ [m]))) := by
 funext j
 rw [Bool.eq_iff_iff]
 rw [Bool.or_eq_true, beq_iff_eq, decide_eq_true_eq, decide_eq_true_eq]
 unfold toI
 rw [List.map_append, List.mem_append, List.map_cons, List.map_nil, List.mem_singleton]
 exact Or.comm
theorem Rch.put {w : World} {rb mb : Nat} {V : List Nat} (h : Rch w rb mb V) {m : Nat} (hm : m ∉ V) (h64 : m < 64) (hv : V.length ≤ 64) :
 ∃ w', (Instr.mapUpdate 149 (.map (some mb)) (.int .i64 m) (.bool true)).run Tryz.prog w = .ok () w' ∧ Rch w' rb mb (V ++ [m]) ∧ w.grownBy w' (some mb) := by
 have hno : decide (((m : Nat) : Int) ∈ toI V) = false := by rw [decide_eq_false_iff_not, toI_mem]; exact hm
 obtain ⟨w', h1, h2, h3⟩ := h.map.put (m : Nat) (kl_wf (by omega) (by omega)) (by omega)
 rw [hno, if_neg (by simp), toI_snoc] at h2
 refine ⟨w', h1, ⟨?_, by rw [List.length_append]; exact h2, ?_, h.ne⟩, h3⟩
 · rw [h3.block _ (lt_of_block h.blk) (fun e => by injection e with e; exact h.ne e)]
   exact h.blk
 · rw [List.nodup_append]
   exact ⟨h.nd, by simp, fun a ha b hb e => by rw [List.mem_singleton.1 hb] at e; exact hm (e ▸ ha)⟩
theorem Rch.lookNo {w : World} {rb mb : Nat} {V : List Nat} (h : Rch w rb mb V) {m : Nat} (hm : m ∉ V) (h64 : m < 64) : (Instr.lookup 149 (.map (some mb)) (.int .i64 m) false).run Tryz.prog w = .ok (.bool false) w := by
 have h1 := h.map.look (m : Nat) (kl_wf (by omega) (by omega))
 rwa [show decide (((m : Nat) : Int) ∈ toI V) = false by rw [decide_eq_false_iff_not, toI_mem]; exact hm] at h1
theorem toI_len (l : List Nat) : (toI l).length = l.length := by simp [toI]
theorem nodup_64 {V : List Nat} (h : V.Nodup) (hl : ∀ m, m ∈ V → m < 64) : V.length ≤ 64 := nodup_lt 64 V h hl
set_option maxRecDepth 100000 in
set_option maxHeartbeats 4000000 in
theorem radd_ok (w : World) (rb mb : Nat) (V l : List Nat) (A : Option Addr) (cap : Nat) (hR : Rch w rb mb V) (hI : Ints w A l.length (toI l)) (hn : (V ++ l).Nodup) (h64 : ∀ m, m ∈ V ++ l → m < 64) (hA : ∀ b off, A = some ⟨b, off, none⟩ → b ≠ rb ∧ b ≠ mb) :
 Calls Tryz.prog 65 #[.pointer (some ⟨rb, 0, none⟩), .slice A l.length cap] w fun e w' => e = .returned (.tuple #[]) ∧ Rch w' rb mb (V ++ l) ∧ Keep (fun j => j = rb ∨ j = mb) w w' := by
 have hlen : l.length ≤ 64 := nodup_64 (List.nodup_append.1 hn).2.1 (fun m hm => h64 m (List.mem_append_right _ hm))
 have HI := Lib.hid hI
 have HN := Lib.hid hn
 have H6 := Lib.hid h64
 have HA := Lib.hid hA
 have R0 : Hid (Rch w rb mb (V ++ l.take 0)) := Lib.hid (by rw [List.take_zero, List.append_nil]; exact hR)
 have K0 : Hid (Keep (fun j => j = rb ∨ j = mb) w w) := Lib.hid (Keep.refl _ _)
 clear hI hn h64 hA hR
 go_enter Tryz.func65, Tryz.ntmps65
 go_wp2_with fail
 go_loopw [8] (fun v wr => ∃ j : Nat, v = .int .i64 (j : Nat) ∧ j ≤ l.length ∧ Hid (Rch wr rb mb (V ++ l.take j)) ∧ Hid (Keep (fun j => j = rb ∨ j = mb) w wr)) (fun v _ => l.length - (intOf v).toNat)
 case atStart => exact ⟨0, rfl, Nat.zero_le _, R0, K0⟩
 case round =>
  clear R0 K0
  obtain ⟨j, rfl, hj, R1, K1⟩ := hrel
  by_cases hlt : j < l.length
  · obtain ⟨b, off, rfl, hbl, hcell⟩ := HI.out.2.2 (by omega)
    obtain ⟨hb1, hb2⟩ := HA.out b off rfl
    have hc0 := (K1.out.cell (o := off + j) hbl (by omega)).trans (hcell j hlt)
    rw [toI_getD l j hlt] at hc0
    have hbw : b < wr.heap.size := Nat.lt_of_lt_of_le hbl K1.out.size
    have hsplit : V ++ l.take (j + 1) = (V ++ l.take j) ++ [l[j]] := by rw [List.take_succ_eq_append_getElem hlt, List.append_assoc]
    have hnd : (V ++ l.take (j + 1)).Nodup := List.Nodup.sublist ((List.take_sublist (j + 1) l).append_left V) HN.out
    have hno : l[j] ∉ V ++ l.take j := fun h => by
     rw [hsplit, List.nodup_append] at hnd
     exact hnd.2.2 _ h _ (List.mem_singleton_self _) rfl
    have h6 : l[j] < 64 := H6.out _ (List.mem_append_right _ (List.getElem_mem hlt))
    have hv6 : (V ++ l.take j).length ≤ 64 := nodup_64 R1.out.nd (fun m hm => H6.out m (by
     rcases List.mem_append.1 hm with h | h
     · exact List.mem_append_left _ h
     · exact List.mem_append_right _ (List.mem_of_mem_take h)))
    have hlk := R1.out.lookNo hno h6
    obtain ⟨LJ, hLJ⟩ : ∃ LJ, LJ = l[j] := ⟨_, rfl⟩
    rw [← hLJ] at hc0 hno h6 hlk hsplit
    have cR := blk_cell R1.out.blk
    have fR := blk_free R1.out.blk
    have lR := lt_of_block R1.out.blk
    have R2 : Rch (wr.setCell ⟨rb, 1, none⟩ (.bool false)) rb mb (V ++ l.take j) := by
     have kk : Keep (fun j => j = rb) wr (wr.setCell ⟨rb, 1, none⟩ (.bool false)) := Keep.setCell (S := fun j => j = rb) (Keep.refl _ wr) (.inl rfl) _
     exact ⟨by simpa using heap_setCell_same wr rb 1 _ _ (.bool false) R1.out.blk, R1.out.map.block (kk.block _ R1.out.map.lt (fun e => R1.out.ne e.symm)), R1.out.nd, R1.out.ne⟩
    have K2 := Lib.hid (K1.out.setCell (j := 1) (.inl (show rb = rb ∨ rb = mb from .inl rfl)) (.bool false))
    have cR2 := blk_cell R2.blk
    have lR2 := lt_of_block R2.blk
    obtain ⟨w3, hput, R3, hg3⟩ := R2.put hno h6 hv6
    rw [← hsplit] at R3
    have K3 := Lib.hid (K2.out.trans (Keep.grown (S := fun j => j = rb ∨ j = mb) hg3 (fun k hk => by injection hk with hk; exact .inr hk.symm)))
    have HR3 := Lib.hid R3
    have hjI : (j : Int) < (l.length : Int) := by omega
    have i1 : IntKind.i64.wrap ((j : Int) + 1) = (j : Int) + 1 := IntWalk.i64_in _ (by omega)
    clear hsplit hnd hno hv6 R2 R3 hg3 hLJ hcell K2 R1
    go_wp2_with fail
    refine ⟨⟨j + 1, by simp, by omega, HR3, K3⟩, ?_⟩
    clear i1
    simp [intOf]; omega
  · obtain rfl : j = l.length := by omega
    have RF := R1.out
    rw [List.take_length] at RF
    have HF := Lib.hid RF
    clear RF R1
    go_wp2_with fail
    go_end0
    exact ⟨rfl, HF.out, K1.out⟩
end Go.Proofs.YtijhamllnnilbaaGreatDoor.Ha
