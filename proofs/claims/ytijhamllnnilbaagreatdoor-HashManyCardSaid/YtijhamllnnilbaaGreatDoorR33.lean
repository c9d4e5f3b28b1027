/- Lemmas of the claim, in their order:
- The contract of hash.Format.
- The contract of slices.Clone at cells.
- The sort of cell.Fits: its compare function is another number.
- The contract of hash.sorted.
- An empty table. No program in sight.
-/
import Derived.Test.YtijhamllnnilbaaGreatDoorR31
import Derived.Lib.SliceRun
set_option linter.unusedVariables false
set_option linter.unusedSimpArgs false
namespace Go.Proofs.YtijhamllnnilbaaGreatDoor.Ha
open Go.RowKit Go.Proofs.YtijhamllnnilbaaGreatDoor.Mem Go.Proofs.YtijhamllnnilbaaGreatDoor.Pg Go.Proofs.YtijhamllnnilbaaGreatDoor.Kp Go.Proofs.YtijhamllnnilbaaGreatDoor.Sp Go.Proofs.YtijhamllnnilbaaGreatDoor.Gr
set_option linter.unusedSimpArgs false
set_option linter.unusedVariables false
theorem wp_world {P : Program} {c : Code} {Q : Exit → Act → World → Prop} {f : Act} {a b : World} (h : b = a) (k : Code.wp P c Q f b) : Code.wp P c Q f a := h ▸ k
def fmtL (n : Nat) : List UInt8 := (newL n).set 2 1
theorem take_new (n : Nat) (h8 : 8 ≤ n) (h64 : n ≤ 64) : takeI 2 (newL n) = 2 ∧ pagesF 2 (newL n) = n := by
 have hm := isMap_new n h8 h64
 have hb := bt_newL n (by omega)
 refine ⟨?_, pagesF_map hm⟩
 rcases takeI_map hm with ⟨_, h1⟩ | ⟨i, h1, h2, h3, h4, h5⟩
 · have := h1 2 (by omega)
   rw [hb 2, if_pos (by omega), if_neg (by omega)] at this
   omega
 · have : i = 2 := by
    rcases Nat.lt_or_ge 2 i with h6 | h6
    · have := h5 2 h6
      rw [hb 2, if_pos (by omega), if_neg (by omega)] at this
      omega
    · omega
   rw [h1, this]; rfl
set_option maxRecDepth 100000 in
set_option maxHeartbeats 4000000 in
theorem format_ok (n : Nat) (w : World) (h8 : 8 ≤ n) (h64 : n ≤ 64) :
 Calls Tryz.prog 35 #[.int .i64 n] w fun e w' => ∃ g, e = .returned (.tuple #[.slice (some ⟨g, 0, none⟩) 3 3, .bool true]) ∧ w.heap.size ≤ g ∧
  w'.heap[g]? = some (.cells #[.int .i64 1, .int .i64 0, .int .i64 0, .string (str (Dr.bodyOf [2])), .int .i64 2, .int .i64 0, .int .i64 0, .string (str (fmtL n)), .int .i64 3, .int .i64 0, .int .i64 0, .string (str (zs 240))] 113 (0, 0)) ∧ Below w.heap.size w w' := by
 obtain ⟨ht, hp⟩ := take_new n h8 h64
 have hnew := new_ok n w h8 h64
 have hdir := fun W => Dr.new_yes 2 W (by decide)
 have htk := fun W => take_ok 2 0 0 (newL n) W (by rw [newL_len]; omega) 2 ht (by rw [hp]; omega)
 have hem := fun W => empty_any 3 0 W
 change ∀ W, Calls _ _ #[.agg #[_, _, _, .string (str (newL n))]] _ _ at htk
 rw [show (newL n).set 2 1 = fmtL n from rfl] at htk
 generalize str (fmtL n) = F at *
 generalize str (newL n) = L at *
 generalize str (Dr.bodyOf [2]) = E at *
 generalize str (zs 240) = Z at *
 clear ht hp
 go_enter Tryz.func35, Tryz.ntmps35
 go_wp2_with fail
 with_reducible refine hnew.mono ?_
 rintro e w1 ⟨rfl, hb1⟩
 have z1 := heap_alloc_new w1 (pagO 2 0 0 L)
 have B1 := Lib.hid (below_al hb1 (pagO 2 0 0 L))
 have Z1 := Lib.hid z1
 have hw1 := hb1.size
 clear hb1 z1 hnew
 go_wp2_with fail
 with_reducible refine (hdir _).mono ?_
 rintro e w2 ⟨rfl, hb2⟩
 have z2 := hal (o := pagO 1 0 0 E) (blk_keep Z1.out hb2)
 have y2 := heap_alloc_new w2 (pagO 1 0 0 E)
 have B2 := Lib.hid (below_al (below_base B1.out B1.out.size hb2) (pagO 1 0 0 E))
 have Z2 := Lib.hid z2
 have Y2 := Lib.hid y2
 have cz2 := blk_cell z2
 have lz2 := lt_of_block z2
 have hw2 : w1.heap.size < w2.heap.size := by have := hb2.size; simp at this; omega
 clear hb2 z2 y2 hdir
 go_wp2_with fail
 with_reducible refine (htk _).mono ?_
 rintro e w3 ⟨rfl, hb3⟩
 have z3 := blk_keep Z2.out hb3
 have y3 := blk_keep Y2.out hb3
 have cz3 := blk_cell z3
 have fz3 := blk_free z3
 have lz3 := lt_of_block z3
 have B3 := Lib.hid (below_base B2.out B2.out.size hb3)
 have Z3 := Lib.hid z3
 have Y3 := Lib.hid y3
 clear hb3 z3 y3 cz2 lz2 htk
 go_wp2_with fail
 obtain ⟨w4, hw4⟩ : ∃ w4, w4 = set4 w3 w1.heap.size (.int .i64 2) (.int .i64 0) (.int .i64 0) (.string F) := ⟨_, rfl⟩
 have Z4 : Hid (w4.heap[w1.heap.size]? = some (pagO 2 0 0 F)) := Lib.hid (by rw [hw4]; exact set4_same Z3.out _ _ _ _)
 have Y4 : Hid (w4.heap[w2.heap.size]? = some (pagO 1 0 0 E)) := Lib.hid (by rw [hw4]; exact hs4 Y3.out (by omega))
 have B4 : Hid (Below w.heap.size w w4) := Lib.hid (by rw [hw4]; exact below_set4 B3.out hw1 _ _ _ _)
 refine wp_world hw4 ?_
 clear hw4 cz3 fz3 lz3
 refine wp_region_held_drew (S := (Bz w4)) (by kernel_rfl) (below_dr (Below.refl _ _)) (fun hHeld => ?_)
 refine Ra.W 0 ?_ ?_ hHeld ?_
 rotate_left
 · intro wq hSw
   have hSc := blk_cell (blk_keep Z4.out hSw); have hSl := lt_of_block (blk_keep Z4.out hSw); have hSd := blk_cell (blk_keep Y4.out hSw); have hSe := lt_of_block (blk_keep Y4.out hSw)
   go_simp
   try with_reducible rfl
 try simp only [Act.put, List.getElem_toArray, List.getElem_cons_succ, List.getElem_cons_zero, List.setIfInBounds_toArray, List.set_cons_zero, List.set_cons_succ]
 refine Ra.W 1 ?_ ?_ hHeld ?_
 rotate_left
 · intro wq hSw
   have hSc := blk_cell (blk_keep Z4.out hSw); have hSl := lt_of_block (blk_keep Z4.out hSw); have hSd := blk_cell (blk_keep Y4.out hSw); have hSe := lt_of_block (blk_keep Y4.out hSw)
   go_simp
   try with_reducible rfl
 try simp only [Act.put, List.getElem_toArray, List.getElem_cons_succ, List.getElem_cons_zero, List.setIfInBounds_toArray, List.set_cons_zero, List.set_cons_succ]
 refine wpAnyH_ready (rs := [2]) (by kernel_rfl) (by simp) ?_
 refine AllReadyH.cons rfl (fun K hK => ?_) AllReadyH.nil
 rw [if_pos (by kernel_rfl)]
 go_simp
 (with_reducible refine (hem _).mono ?_)
 rintro e w6 ⟨rfl, hb6⟩
 have H6 := below_tr hHeld hb6
 go_simp
 refine hK.out _ _ (below_tr hHeld hb6) (fun hHeld2 => ?_)
 clear hK K
 try clear hHeld
 have hHeld := hHeld2
 try clear hHeld2
 refine wpAnyH_ready (rs := [3]) (by kernel_rfl) (by simp) ?_
 refine AllReadyH.cons rfl (fun K hK => ?_) AllReadyH.nil
 rw [if_pos (by kernel_rfl)]
 go_simp
 skip
 refine hK.out _ _ (below_al H6 _) (fun hHeld2 => ?_)
 clear hK K
 try clear hHeld
 have hHeld := hHeld2
 try clear hHeld2
 refine Ra.W 4 ?_ ?_ hHeld ?_
 rotate_left
 · intro wq hSw
   go_simp
   try with_reducible rfl
 try simp only [Act.put, List.getElem_toArray, List.getElem_cons_succ, List.getElem_cons_zero, List.setIfInBounds_toArray, List.set_cons_zero, List.set_cons_succ]
 refine Ra.W 5 ?_ ?_ hHeld ?_
 rotate_left
 · intro wq hSw
   go_simp
   try with_reducible rfl
 try simp only [Act.put, List.getElem_toArray, List.getElem_cons_succ, List.getElem_cons_zero, List.setIfInBounds_toArray, List.set_cons_zero, List.set_cons_succ]
 refine wpAnyH_done (by kernel_rfl) ?_ _
 have B7 := Lib.hid (below_base B4.out B4.out.size hHeld)
 have hz := heap_alloc_new w6 (.cells #[.int .i64 1, .int .i64 0, .int .i64 0, .string E, .int .i64 2, .int .i64 0, .int .i64 0, .string F, .int .i64 3, .int .i64 0, .int .i64 0, .string Z] 113)
 have HZ := Lib.hid hz
 have hg : Hid (w.heap.size ≤ w6.heap.size) := Lib.hid (below_base B4.out B4.out.size H6).size
 clear hHeld hz H6 hb6
 go_wp2_with fail
 go_ret2
 exact ⟨_, rfl, hg.out, HZ.out, B7.out⟩
end Go.Proofs.YtijhamllnnilbaaGreatDoor.Ha
namespace Go.Proofs.YtijhamllnnilbaaGreatDoor.Ha
open Go.RowKit Go.Proofs.YtijhamllnnilbaaGreatDoor.Mem Go.Proofs.YtijhamllnnilbaaGreatDoor.Pg Go.Proofs.YtijhamllnnilbaaGreatDoor.Kp Go.Proofs.YtijhamllnnilbaaGreatDoor.Sp Go.Proofs.YtijhamllnnilbaaGreatDoor.Gr
set_option linter.unusedSimpArgs false
set_option linter.unusedVariables false
set_option maxRecDepth 100000 in
set_option maxHeartbeats 4000000 in
theorem clone_ok (w : World) (base : Nat) (v : Value) (l : List Cel) (h : w.ownsRow base 33 4 v l.length (flatC l)) (hl : l.length ≤ 10000) :
 Calls Tryz.prog 251 #[v] w fun e w' => ∃ A cap, e = .returned (.slice A l.length cap) ∧ w'.ownsRow w.heap.size 33 4 (.slice A l.length cap) l.length (flatC l) ∧ Below w.heap.size w w' := by
 obtain ⟨i0, hi, hz0, hz1, hz2⟩ := info_parts info_cell
 have hE := fun (W : World) (a : Option Addr) (n c : Nat) => run_eql_slice_nil (P := Tryz.prog) W 142 33 a n c Tryz.underlying142
 rcases h.2 with ⟨rfl, h0⟩ | ⟨g, cap, cur, rfl, _, hg, _⟩
 · have hl0 : l = [] := List.length_eq_zero_iff.1 h0
   subst hl0
   have B0 := Lib.hid (Below.refl w.heap.size w)
   clear h
   go_enter Tryz.func251, Tryz.ntmps251
   go_wp2_with fail
   first | go_ret | skip
   exact ⟨none, 0, rfl, ⟨rfl, .inl ⟨rfl, rfl⟩⟩, B0.out⟩
 · by_cases h0 : l = []
   · subst h0
     have hrun := fun ty (W : World) => run_append_none (P := Tryz.prog) W 142 ty 33 i0 Tryz.underlying142 hi (some ⟨w.heap.size, 0, none⟩) (some ⟨g, 0, none⟩) 0 0 cap (Nat.le_refl _)
     have B1 := Lib.hid (below_al (Below.refl _ w) (.cells #[] 33))
     have hz := Lib.hid (heap_alloc_new w (.cells #[] 33))
     clear h
     go_enter Tryz.func251, Tryz.ntmps251
     go_wp2_with (at_builtin; refine Lib.wpList_append_run _ rfl _ _ _ _ rfl _ _ rfl rfl _ _ (hrun _ _) ?_)
     go_ret
     exact ⟨_, 0, rfl, ⟨rfl, .inr ⟨w.heap.size, 0, #[], rfl, Nat.le_refl _, hz.out, Nat.le_refl _, Nat.zero_le _, rfl, rfl⟩⟩, B1.out⟩
   · have hpos : 0 < l.length := List.length_pos_iff.2 h0
     have o1 := h.alloc (.cells #[] 33)
     have hz := heap_alloc_new w (.cells #[] 33)
     have oz : (w.alloc (.cells #[] 33)).ownsRow w.heap.size 33 4 (.slice (some ⟨w.heap.size, 0, none⟩) 0 0) 0 (flatC []) := ⟨rfl, .inr ⟨w.heap.size, 0, #[], rfl, Nat.le_refl _, hz, Nat.le_refl _, Nat.zero_le _, rfl, rfl⟩⟩
     have B1 := below_al (Below.refl _ w) (.cells #[] 33)
     clear hz hg
     go_enter Tryz.func251, Tryz.ntmps251
     go_wp2_with (at_builtin; refine wpList_append_own _ rfl (.tmp 5) (.tmp 6) _ rfl w.heap.size 33 i0 (.agg #[.string ⟨#[]⟩, .string ⟨#[]⟩, .int .i64 0, .int .i64 0]) 4 48 Tryz.underlying142 hi hz0 hz1 hz2 rfl (by decide) _ 0 (flatC []) rfl oz ⟨g, 0, none⟩ l.length cap (flatC l) rfl (flatC_len l) (fun r u hr => o1.cells (g := g) rfl r u hr) (cel_one l) (by unfold maxLen; omega) (by omega) (by simp) ?_; intro v' w4 own4 grow4 _)
     have B4 := below_grown (b := w4) B1 (by simp) oz grow4
     have own5 : w4.ownsRow w.heap.size 33 4 v' l.length (flatC l) := by rw [Nat.zero_add] at own4; exact own4
     obtain ⟨A', c', rfl⟩ := own_slice own5
     go_ret
     exact ⟨A', c', rfl, own5, B4⟩
end Go.Proofs.YtijhamllnnilbaaGreatDoor.Ha
namespace Go.Proofs.YtijhamllnnilbaaGreatDoor.Ha
open Go.RowKit Go.Proofs.YtijhamllnnilbaaGreatDoor.Mem Go.Proofs.YtijhamllnnilbaaGreatDoor.Pg Go.Proofs.YtijhamllnnilbaaGreatDoor.Kp Go.Sort Go.Shelf
set_option linter.unusedSimpArgs false
set_option linter.unusedVariables false
end Go.Proofs.YtijhamllnnilbaaGreatDoor.Ha
namespace Go.Proofs.YtijhamllnnilbaaGreatDoor.Ha
open Go.RowKit Go.Proofs.YtijhamllnnilbaaGreatDoor.Mem Go.Proofs.YtijhamllnnilbaaGreatDoor.Pg Go.Proofs.YtijhamllnnilbaaGreatDoor.Kp Go.Proofs.YtijhamllnnilbaaGreatDoor.Sp Go.Proofs.YtijhamllnnilbaaGreatDoor.Gr
set_option linter.unusedSimpArgs false
set_option linter.unusedVariables false
theorem sortCell_any (w : World) (base n cap : Nat) (A : Option Addr) (l : List Cel) (h : w.ownsRow base 33 4 (.slice A n cap) n (flatC l)) (hn : n = l.length) (hl : n ≤ 100000) :
 Calls Tryz.prog 252 #[.slice A n cap, .func (.func 253) #[] #[]] w fun e w' =>
  e = .returned (.tuple #[]) ∧ ∃ l' : List Cel, l'.Perm l ∧ SortedK Cel.key l' ∧ w'.ownsRow base 33 4 (.slice A n cap) n (flatC l') ∧ Keep (fun j => base ≤ j) w w' := by
 by_cases h0 : n = 0
 · subst h0
   have hl0 : l = [] := List.length_eq_zero_iff.1 hn.symm
   subst hl0
   have hc := AnyF.slices_SortFunc_none Tryz.sortCell A cap (.func (.func 253) #[] #[]) w
   change Calls Tryz.prog 252 _ _ _ at hc
   refine hc.mono ?_
   rintro e w' ⟨rfl, rfl⟩
   exact ⟨rfl, [], List.Perm.refl _, List.Pairwise.nil, h, Keep.refl _ _⟩
 · obtain ⟨g, rfl⟩ : ∃ g, A = some ⟨g, 0, none⟩ := by
    rcases h.2 with ⟨_, h1⟩ | ⟨g, c', cur, h1, _⟩
    · exact absurd h1 h0
    · injection h1 with h1; exact ⟨g, h1⟩
   have hg := own_base h g rfl
   refine (sortCell_ok w base g n cap l h hn hl).mono ?_
   rintro e w' ⟨rfl, l', h1, h2, h3, h4⟩
   exact ⟨rfl, l', h1, h2, h3, h4.mono (fun j hj => by omega)⟩
set_option maxRecDepth 100000 in
set_option maxHeartbeats 4000000 in
theorem sorted_ok (w : World) (base : Nat) (v : Value) (l : List Cel) (h : w.ownsRow base 33 4 v l.length (flatC l)) (hl : l.length ≤ 10000) :
 Calls Tryz.prog 200 #[v] w fun e w' => ∃ A cap l', e = .returned (.slice A l.length cap) ∧ w'.ownsRow w.heap.size 33 4 (.slice A l.length cap) l.length (flatC l') ∧ l'.Perm l ∧ SortedK Cel.key l' ∧ Below w.heap.size w w' := by
 have hcl := clone_ok w base v l h hl
 clear h
 go_enter Tryz.func200, Tryz.ntmps200
 go_wp2_with fail
 with_reducible refine hcl.mono ?_
 rintro e w1 ⟨A, cap, rfl, ho, hb⟩
 have hs := sortCell_any w1 w.heap.size l.length cap A l ho rfl (by omega)
 have HB := Lib.hid hb
 clear ho hb hcl
 go_wp2_with fail
 with_reducible refine hs.mono ?_
 rintro e w2 ⟨rfl, l', h1, h2, h3, h4⟩
 have HF := Lib.hid (And.intro h1 (And.intro h2 (And.intro h3 (HB.out.trans (h4.to_below HB.out.size (fun i hi => hi))))))
 clear h1 h2 h3 h4 hs
 go_wp2_with fail
 go_ret
 exact ⟨A, cap, l', rfl, HF.out.2.2.1, HF.out.1, HF.out.2.1, HF.out.2.2.2⟩
end Go.Proofs.YtijhamllnnilbaaGreatDoor.Ha
namespace Go.Proofs.YtijhamllnnilbaaGreatDoor.Ha
open Go.RowKit Go.Proofs.YtijhamllnnilbaaGreatDoor.Mem Go.Proofs.YtijhamllnnilbaaGreatDoor.Pg Go.Proofs.YtijhamllnnilbaaGreatDoor.Gr Go.Proofs.YtijhamllnnilbaaGreatDoor.Sp
set_option linter.unusedVariables false
set_option linter.unusedSimpArgs false
def t00 : Tri := .leaf ⟨2, [], []⟩
def pgNew (n : Nat) : Nat → Pag := fun i => if i = 0 then ⟨1, 0, 0, Dr.bodyOf [2]⟩ else if i = 1 then ⟨2, 0, 0, fmtL n⟩ else if i = 2 then ⟨3, 0, 0, zs 240⟩ else Pag.zero
theorem ents00 : entsF 0 t00 = [2] := rfl
theorem hs_new (n : Nat) (h8 : 8 ≤ n) (h64 : n ≤ 64) : Hs n (pgNew n) 0 t00 (fmtL n) [] := by
 have hm := isMap_new n h8 h64
 have hb := bt_newL n (by omega)
 have hl := newL_len n
 refine ⟨⟨Nat.le_refl _, by omega, ?_, fun i q hq => ?_, fun b hb p hp => ?_, ?_, fun m hm => ?_, fun b hb c hc => ?_, fun b hb => ?_⟩, ⟨0, 0, rfl⟩, hm.set 2 1 (by omega) (by omega) (.inl rfl), fun m h2 hmn => ?_, fun m hm => by simp at hm, fun m hm => by simp at hm, List.nodup_nil⟩
 · show _ = dirF 0 t00
   unfold dirF
   rw [ents00]; rfl
 · have hq' : q ∈ [((2 : Nat), (⟨3, 0, 0, bodyF []⟩ : Pag))] := hq
   rw [List.mem_singleton] at hq'
   subst hq'
   rw [bodyF_nil]; rfl
 · rw [List.mem_singleton.1 (show b ∈ [(⟨2, [], []⟩ : Lf)] from hb)] at hp
   rw [List.mem_singleton.1 (show p ∈ [((2 : Nat), ([] : List Cel))] from hp)]
   exact fits_nil
 · show [2].Nodup
   simp
 · rw [List.mem_singleton.1 (show m ∈ [2] from hm)]; omega
 · rw [List.mem_singleton.1 (show b ∈ [(⟨2, [], []⟩ : Lf)] from hb)] at hc
   exact absurd (show c ∈ ([] : List Cel) from hc) (by simp)
 · rw [List.mem_singleton.1 (show b ∈ [(⟨2, [], []⟩ : Lf)] from hb)]
   exact List.nodup_nil
 · unfold fmtL
   rw [bt_set _ _ _ (by rw [hl]; omega), hb m]
   show _ ↔ m ∈ [2] ∨ m ∈ []
   by_cases e : 2 = m
   · subst e; simp
   · rw [if_neg e, if_pos hmn, if_neg (by omega)]
     simp
     omega
theorem look00 (k : List UInt8) : lookT t00 k = none := rfl
theorem has00 (k : List UInt8) (i : Nat) : ¬ has k (t00.at' i).cells := fun ⟨c, h, _⟩ => by
 exact absurd (show c ∈ ([] : List Cel) from h) (by simp)
end Go.Proofs.YtijhamllnnilbaaGreatDoor.Ha
