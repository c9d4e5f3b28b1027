/- Lemmas of the claim, in their order:
- The contract of bucket.Split.
- The contract of hash.filled.
- The contract of cell.Fits.
- The contract of a bucket's tidy.
-/
import Derived.Test.YtijhamllnnilbaaGreatDoorQ34
import Derived.Test.YtijhamllnnilbaaGreatDoorQ32
import Derived.Test.YtijhamllnnilbaaGreatDoorQ29
import Derived.Test.YtijhamllnnilbaaGreatDoorQ27
set_option linter.unusedVariables false
set_option linter.unusedSimpArgs false
namespace Go.Proofs.YtijhamllnnilbaaGreatDoor.Ha
open Go.RowKit Go.Proofs.YtijhamllnnilbaaGreatDoor.Mem Go.Proofs.YtijhamllnnilbaaGreatDoor.Pg Go.Proofs.YtijhamllnnilbaaGreatDoor.Kp Go.Proofs.YtijhamllnnilbaaGreatDoor.Sp Go.Proofs.YtijhamllnnilbaaGreatDoor.Gr
set_option linter.unusedSimpArgs false
set_option linter.unusedVariables false
structure HvS (w wr : World) (l : List Cel) (d j : Nat) (v0 v1 : Value) : Prop where
 blk : wr.heap[w.heap.size]? = some (.cells #[v0, v1] 292 (0, 0))
 r0 : wr.ownsRow (w.heap.size + 1) 33 4 v0 ((l.take j).filter (bitF d)).length (flatC ((l.take j).filter (bitF d)))
 r1 : wr.ownsRow (w.heap.size + 1) 33 4 v1 ((l.take j).filter (fun c => !bitF d c)).length (flatC ((l.take j).filter (fun c => !bitF d c)))
 ne : ∀ g, v0.ownBlock = some g → v1.ownBlock ≠ some g
 bel : Below w.heap.size w wr
theorem HvS.below {w wr wq : World} {l : List Cel} {d j : Nat} {v0 v1 : Value} (h : HvS w wr l d j v0 v1) (k : Below wr.heap.size wr wq) : HvS w wq l d j v0 v1 :=
 ⟨blk_keep h.blk k, own_below h.r0 k, own_below h.r1 k, h.ne, below_base h.bel h.bel.size k⟩
theorem filt_step {l : List Cel} {j : Nat} (hj : j < l.length) (p : Cel → Bool) : (l.take (j + 1)).filter p = (l.take j).filter p ++ (if p l[j] then [l[j]] else []) := by
 rw [List.take_succ_eq_append_getElem hj, List.filter_append]
 congr 1
 by_cases h : p l[j] = true
 · rw [if_pos h, List.filter_cons_of_pos h]; rfl
 · rw [if_neg h, List.filter_cons_of_neg h]; rfl
theorem HvS.next {w wr : World} {l : List Cel} {d j : Nat} {v0 v1 : Value} (h : HvS w wr l d j v0 v1) (hj : j < l.length) (bit : Nat) (hb : bit = if bitF d l[j] then 0 else 1) (hl : l.length ≤ 1000) :
 Calls Tryz.prog 198 #[.pointer (some ⟨w.heap.size, 0, none⟩), .int .i64 bit, l[j].v] wr fun e w' => e = .returned (.tuple #[]) ∧ ∃ v0' v1', HvS w w' l d (j + 1) v0' v1' := by
 have hbs : w.heap.size + 1 ≤ wr.heap.size := lt_of_block h.blk
 have hle : ∀ p : Cel → Bool, ((l.take j).filter p).length ≤ 10000 := fun p => by
  have h1 := List.length_filter_le p (l.take j)
  rw [List.length_take] at h1
  omega
 by_cases hp : bitF d l[j] = true
 · rw [if_pos hp] at hb
   subst hb
   refine (hadd0 wr (w.heap.size + 1) w.heap.size v0 v1 _ l[j] h.blk h.r0 (Nat.lt_succ_self _) hbs (hle _)).mono ?_
   rintro e w' ⟨rfl, v', h1, h2, h3, h4⟩
   refine ⟨rfl, v', v1, h1, ?_, ?_, fun g hg hg2 => ?_, ?_⟩
   · rw [filt_step hj, if_pos hp]; exact h2
   · rw [filt_step hj, if_neg (by simp [hp]), List.append_nil]
     exact h3.row h.r1 (fun g hg hs => by
      rcases hs with hs | hs
      · have := own_base h.r1 g hg; omega
      · exact h.ne g hs hg)
   · rcases h4 g hg with h5 | h5
     · exact h.ne g h5 hg2
     · have := own_lt h.r1 g hg2; omega
   · exact h.bel.trans (h3.to_below h.bel.size (fun i hi => by
      rcases hi with hi | hi
      · omega
      · have := own_base h.r0 i hi; omega))
 · rw [if_neg hp] at hb
   subst hb
   refine (hadd1 wr (w.heap.size + 1) w.heap.size v0 v1 _ l[j] h.blk h.r1 (Nat.lt_succ_self _) hbs (hle _)).mono ?_
   rintro e w' ⟨rfl, v', h1, h2, h3, h4⟩
   refine ⟨rfl, v0, v', h1, ?_, ?_, fun g hg hg2 => ?_, ?_⟩
   · rw [filt_step hj, if_neg hp, List.append_nil]
     exact h3.row h.r0 (fun g hg hs => by
      rcases hs with hs | hs
      · have := own_base h.r0 g hg; omega
      · exact h.ne g hg hs)
   · rw [filt_step hj, if_pos (by simp [hp])]; exact h2
   · rcases h4 g hg2 with h5 | h5
     · exact h.ne g hg h5
     · have := own_lt h.r0 g hg; omega
   · exact h.bel.trans (h3.to_below h.bel.size (fun i hi => by
      rcases hi with hi | hi
      · omega
      · have := own_base h.r1 i hi; omega))
theorem bit_u32 (a d : Nat) (ha : a < 4294967296) (hd : d ≤ 31) : wrap64 (bits .and .u32 ((a : Int) / 2 ^ d) 1) = ((a / 2 ^ d % 2 : Nat) : Int) := by
 have h1 := and_u32 (a / 2 ^ d) 1 (Nat.lt_of_le_of_lt (Nat.div_le_self _ _) ha) (by omega)
 have e : (a : Int) / 2 ^ d = ((a / 2 ^ d : Nat) : Int) := by simp
 rw [e]
 have h2 : bits .and .u32 (((a / 2 ^ d : Nat)) : Int) 1 = ((a / 2 ^ d % 2 : Nat) : Int) := by simpa using h1
 rw [h2]
 exact IntWalk.wrap64_in _ (by omega)
set_option maxRecDepth 100000 in
set_option maxHeartbeats 4000000 in
theorem bsplit_ok (w : World) (d n cap : Nat) (A : Option Addr) (l : List Cel) (hA : Cels w A l) (hn : n = l.length) (hl : l.length ≤ 1000) (hd : d ≤ 31) (hk : ∀ c, c ∈ l → c.key.length ≤ 1000) :
 Calls Tryz.prog 143 #[.int .i64 d, .slice A n cap] w fun e w' => ∃ A0 c0 A1 c1, e = .returned (.tuple #[.slice A0 (l.filter (bitF d)).length c0, .slice A1 (l.filter (fun c => !bitF d c)).length c1]) ∧
  w'.ownsRow w.heap.size 33 4 (.slice A0 (l.filter (bitF d)).length c0) (l.filter (bitF d)).length (flatC (l.filter (bitF d))) ∧
  w'.ownsRow w.heap.size 33 4 (.slice A1 (l.filter (fun c => !bitF d c)).length c1) (l.filter (fun c => !bitF d c)).length (flatC (l.filter (fun c => !bitF d c))) ∧ Below w.heap.size w w' := by
 have H0 : Hid (HvS w (w.alloc (hvO (.slice none 0 0) (.slice none 0 0))) l d 0 (.slice none 0 0) (.slice none 0 0)) :=
  Lib.hid ⟨heap_alloc_new w _, ⟨rfl, .inl ⟨rfl, rfl⟩⟩, ⟨rfl, .inl ⟨rfl, rfl⟩⟩, fun g hg => by simp [Value.ownBlock] at hg, below_al (Below.refl _ w) _⟩
 have HA := Lib.hid hA
 have HK := Lib.hid hk
 have HN := Lib.hid hn
 have hn1 : n ≤ l.length := by omega
 have dd : decide ((d : Int) ≤ 31) = true := by simp; omega
 have dI : (d : Int) ≤ 31 := by omega
 clear hA hk hn
 go_enter Tryz.func143, Tryz.ntmps143
 go_wp2_with fail
 go_loopw [14] (fun v wr => ∃ (j : Nat) (v0 v1 : Value), v = .int .i64 (j : Nat) ∧ j ≤ n ∧ Hid (HvS w wr l d j v0 v1)) (fun v _ => n - (intOf v).toNat)
 case atStart => exact ⟨0, _, _, rfl, Nat.zero_le _, H0⟩
 case round =>
  clear H0
  obtain ⟨j, v0, v1, rfl, hj, H1⟩ := hrel
  by_cases hlt : j < n
  · have hjl : j < l.length := by omega
    have hsum := fun W => sum_any l[j].key W (by have := HK.out _ (List.getElem_mem hjl); omega)
    obtain ⟨b, off, rfl, hbl, hcell⟩ := HA.out (by have := HN.out; omega)
    have hc := fun r u (hu : (l[j].cells)[r]? = some u) => (H1.out.bel.cell (p := ⟨b, off + j * 4 + r, none⟩) hbl).trans (hcell j l[j] (List.getElem?_eq_getElem hjl) r u hu)
    have c0 := hc 0 _ rfl
    have c1 := hc 1 _ rfl
    have c2 := hc 2 _ rfl
    have c3 := hc 3 _ rfl
    rw [Nat.add_zero] at c0
    have hbw : b < wr.heap.size := Nat.lt_of_lt_of_le hbl H1.out.bel.size
    have hlt32 := sumF_lt l[j].key
    have hbit := bit_u32 (sumF l[j].key) d hlt32 hd
    have hnext := fun W (HW : HvS w W l d j v0 v1) (bit : Nat) hb => HW.next hjl bit hb hl
    obtain ⟨bt1, hbt1⟩ : ∃ b : Nat, b = sumF l[j].key / 2 ^ d % 2 := ⟨_, rfl⟩
    have hbt2 : bt1 = if bitF d l[j] then 0 else 1 := by
     rw [hbt1]
     unfold bitF
     rcases Nat.mod_two_eq_zero_or_one (sumF l[j].key / 2 ^ d) with h | h <;> simp [h]
    have hnx := fun W (HW : HvS w W l d j v0 v1) => hnext W HW bt1 hbt2
    rw [← hbt1] at hbit
    simp only [Cel.v] at hnx
    generalize sumF l[j].key = sf at *
    obtain ⟨U1, hU1⟩ : ∃ U, U = str l[j].key := ⟨_, rfl⟩
    obtain ⟨U2, hU2⟩ : ∃ U, U = str l[j].val := ⟨_, rfl⟩
    obtain ⟨xb, hxb⟩ : ∃ b : Int, b = l[j].blob := ⟨_, rfl⟩
    obtain ⟨xz, hxz⟩ : ∃ b : Int, b = l[j].size := ⟨_, rfl⟩
    rw [← hU1] at hsum c0 hnx
    rw [← hU2] at c1 hnx
    rw [← hxb] at c2 hnx
    rw [← hxz] at c3 hnx
    have H5 := Lib.hid (H1.out.below (below_al (Below.refl _ wr) (celO U1 U2 xb xz)))
    have zc := heap_alloc_new wr (celO U1 U2 xb xz)
    have cz := blk_cell zc
    have lz := lt_of_block zc
    have Z5 := Lib.hid zc
    have hjI : (j : Int) < (n : Int) := by omega
    have i1 : IntKind.i64.wrap ((j : Int) + 1) = (j : Int) + 1 := IntWalk.i64_in _ (by omega)
    have HBT := Lib.hid hbit
    clear hU1 hU2 hxb hxz hc hcell hnext hbt1 hbt2 zc hbit
    go_wp2_with fail
    with_reducible refine (hsum _).mono ?_
    rintro e w6 ⟨rfl, rfl⟩
    go_wp2_with fail
    rw [HBT.out]
    with_reducible refine (hnx _ H5.out).mono ?_
    rintro e w7 ⟨rfl, v0', v1', h7⟩
    have H7 := Lib.hid h7
    clear h7 hnx H5 hsum c0 c1 c2 c3 cz lz Z5 HBT
    go_wp2_with fail
    go_roundw
    case rel => exact ⟨j + 1, v0', v1', by go_num, by omega, H7⟩
    case measure => clear i1; simp [intOf]; omega
  · obtain rfl : j = n := by omega
    have hb := H1.out
    have r0 := hb.r0
    have r1 := hb.r1
    rw [HN.out, List.take_length] at r0 r1
    obtain ⟨A0, c0, h0⟩ := own_slice r0
    obtain ⟨A1, c1, h1⟩ := own_slice r1
    subst h0 h1
    have ch := blk_cell hb.blk
    have lh := lt_of_block hb.blk
    have HF := Lib.hid (And.intro (row_mono r0 (Nat.le_succ _)) (And.intro (row_mono r1 (Nat.le_succ _)) hb.bel))
    clear r0 r1 hb H1
    go_wp2_with fail
    go_region
    go_wp2_with fail
    go_ret2
    exact ⟨A0, c0, A1, c1, rfl, HF.out.1, HF.out.2.1, below_dr HF.out.2.2⟩
end Go.Proofs.YtijhamllnnilbaaGreatDoor.Ha
namespace Go.Proofs.YtijhamllnnilbaaGreatDoor.Ha
open Go.RowKit Go.Proofs.YtijhamllnnilbaaGreatDoor.Mem Go.Proofs.YtijhamllnnilbaaGreatDoor.Pg Go.Proofs.YtijhamllnnilbaaGreatDoor.Kp Go.Proofs.YtijhamllnnilbaaGreatDoor.Sp Go.Proofs.YtijhamllnnilbaaGreatDoor.Gr
set_option linter.unusedSimpArgs false
set_option linter.unusedVariables false
theorem perm_sorted : ∀ {m l : List Cel}, l.Perm m → SortedK Cel.key l → Sorted m → l = m
 | [], l, hp, _, _ => hp.eq_nil
 | a :: m, [], hp, _, _ => absurd hp.length_eq (by simp)
 | a :: m, b :: l, hp, hl, hm => by
  have hab : b = a := by
   have h1 : b ∈ a :: m := hp.subset (List.mem_cons_self ..)
   have h2 : a ∈ b :: l := hp.symm.subset (List.mem_cons_self ..)
   rcases List.mem_cons.1 h1 with h | h
   · exact h
   rcases List.mem_cons.1 h2 with h' | h'
   · exact h'.symm
   · exact absurd (hm.head b h) ((List.pairwise_cons.1 hl).1 a h')
  subst hab
  rw [perm_sorted (List.Perm.cons_inv hp) (List.pairwise_cons.1 hl).2 hm.tail]
set_option maxRecDepth 100000 in
set_option maxHeartbeats 4000000 in
theorem filled_ok (w : World) (base : Nat) (v : Value) (l m : List Cel) (d : Nat) (h : w.ownsRow base 33 4 v l.length (flatC l)) (hp : m.Perm l) (hf : Fits m) :
 Calls Tryz.prog 146 #[.int .i64 d, v] w fun e w' => e = .returned (⟨3, (d : Nat), 0, bodyF m⟩ : Pag).v ∧ Below w.heap.size w w' := by
 have hlen : l.length ≤ 59 := by rw [← hp.length_eq]; exact hf.len
 have hem := fun W => empty_any 3 d W
 have hsort := fun W base (h : World.ownsRow W base 33 4 v l.length (flatC l)) => (sorted_ok W base v l h (by omega)).mono (R' := fun e w' => ∃ A cap, e = .returned (.slice A m.length cap) ∧ Cels w' A m ∧ Below W.heap.size W w') (fun e w' ⟨A, cap, l', h1, h2, h3, h4, h5⟩ => by
  have e1 : l' = m := perm_sorted (h3.trans hp.symm) h4 hf.sorted
  subst e1
  exact ⟨A, cap, by rw [h1, hp.length_eq], Cels.of_own h2, h5⟩)
 have hput := fun W A cap (hA : Cels W A m) => putAll_any A m.length cap m W rfl (by have := hf.len; omega) hA hf.ok hf.sorted
 unfold putRes at hput
 rw [if_pos hf.room] at hput
 simp only [Pag.v]
 obtain ⟨S, hS⟩ : ∃ S, S = str (bodyF m) := ⟨_, rfl⟩
 obtain ⟨Z, hZ⟩ : ∃ Z, Z = str (zs 240) := ⟨_, rfl⟩
 rw [← hS] at hput ⊢
 rw [← hZ] at hem
 have H0 := Lib.hid h
 clear h hp hf hS hZ
 go_enter Tryz.func146, Tryz.ntmps146
 go_wp2_with fail
 with_reducible refine (hem _).mono ?_
 rintro e w1 ⟨rfl, hb1⟩
 have y1 := hal (o := pagO 3 d 0 Z) (blk_keep (heap_alloc_new w zpO) hb1)
 have z1 := heap_alloc_new w1 (pagO 3 d 0 Z)
 have hw1 : w.heap.size < w1.heap.size := by have := hb1.size; simp at this; omega
 have B1 := Lib.hid (below_al (below_base (below_al (Below.refl _ w) zpO) (by simp) hb1) (pagO 3 d 0 Z))
 have Y1 := Lib.hid y1
 have Z1 := Lib.hid z1
 have H1 := Lib.hid (own_below H0.out B1.out)
 clear hb1 z1 y1 hem
 go_wp2_with fail
 with_reducible refine (hsort _ _ H1.out).mono ?_
 rintro e w2 ⟨A, cap, rfl, hA, hb2⟩
 have Y2 := Lib.hid (blk_keep Y1.out hb2)
 have Z2 := Lib.hid (blk_keep Z1.out hb2)
 have B2 := Lib.hid (below_base B1.out B1.out.size hb2)
 have hp2 := hput _ _ cap hA
 clear hA hb2 hsort hput
 go_wp2_with fail
 with_reducible refine hp2.mono ?_
 rintro e w3 ⟨rfl, hb3⟩
 have y3 := blk_keep Y2.out hb3
 have z3 := blk_keep Z2.out hb3
 have B3 := Lib.hid (below_base B2.out B2.out.size hb3)
 have cz := blk_cell z3
 have fz := blk_free z3
 have lz := lt_of_block z3
 have z4 := heap_setCell_same w3 w1.heap.size 3 _ _ (.string S) z3
 have y4 : (w3.setCell ⟨w1.heap.size, 3, none⟩ (.string S)).heap[w.heap.size]? = some zpO := (heap_setCell_other _ _ _ _ (show w.heap.size ≠ w1.heap.size by omega)).trans y3
 have cz4 := blk_cell z4
 have lz4 := lt_of_block z4
 have cy4 := blk_cell y4
 have fy4 := blk_free y4
 have ly4 := lt_of_block y4
 have B4 := Lib.hid (below_set (g := w1.heap.size) (j := 3) (u := .string S) B3.out (by omega))
 have y5 := set4_same y4 (.int .i64 3) (.int .i64 d) (.int .i64 0) (.string S)
 have cy5 := blk_cell y5
 have B5 := Lib.hid (below_set4 B4.out (Nat.le_refl _) (.int .i64 3) (.int .i64 d) (.int .i64 0) (.string S))
 clear y3 z3 hb3 hp2 z4 y4 y5
 go_wp2_with fail
 refine bodyPost_ret (v := .agg #[.int .i64 3, .int .i64 d, .int .i64 0, .string S]) (by simp [results, Tryz.results146, go_sem, cy5]) rfl ?_
 exact ⟨rfl, B5.out⟩
end Go.Proofs.YtijhamllnnilbaaGreatDoor.Ha
namespace Go.Proofs.YtijhamllnnilbaaGreatDoor.Ha
open Go.RowKit Go.Proofs.YtijhamllnnilbaaGreatDoor.Mem Go.Proofs.YtijhamllnnilbaaGreatDoor.Pg Go.Proofs.YtijhamllnnilbaaGreatDoor.Kp Go.Proofs.YtijhamllnnilbaaGreatDoor.Sp Go.Proofs.YtijhamllnnilbaaGreatDoor.Gr
set_option linter.unusedSimpArgs false
set_option linter.unusedVariables false
theorem sortFits_any (w : World) (base n cap : Nat) (A : Option Addr) (l : List Cel) (h : w.ownsRow base 33 4 (.slice A n cap) n (flatC l)) (hn : n = l.length) (hl : n ≤ 100000) :
 Calls Tryz.prog 252 #[.slice A n cap, .func (.func 265) #[] #[]] w fun e w' =>
  e = .returned (.tuple #[]) ∧ ∃ l' : List Cel, l'.Perm l ∧ SortedK Cel.key l' ∧ w'.ownsRow base 33 4 (.slice A n cap) n (flatC l') ∧ Keep (fun j => base ≤ j) w w' := by
 by_cases h0 : n = 0
 · subst h0
   have hl0 : l = [] := List.length_eq_zero_iff.1 hn.symm
   subst hl0
   have hc := AnyF.slices_SortFunc_none Tryz.sortCell A cap (.func (.func 265) #[] #[]) w
   change Calls Tryz.prog 252 _ _ _ at hc
   refine hc.mono ?_
   rintro e w' ⟨rfl, rfl⟩
   exact ⟨rfl, [], List.Perm.refl _, List.Pairwise.nil, h, Keep.refl _ _⟩
 · obtain ⟨g, rfl⟩ : ∃ g, A = some ⟨g, 0, none⟩ := by
    rcases h.2 with ⟨_, h1⟩ | ⟨g, c', cur, h1, _⟩
    · exact absurd h1 h0
    · injection h1 with h1; exact ⟨g, h1⟩
   have hg := own_base h g rfl
   refine (sortFits_ok w base g n cap l h hn hl).mono ?_
   rintro e w' ⟨rfl, l', h1, h2, h3, h4⟩
   exact ⟨rfl, l', h1, h2, h3, h4.mono (fun j hj => by omega)⟩
theorem sorted_strict : ∀ {l : List Cel}, SortedK Cel.key l → (l.map Cel.key).Nodup → Sorted l
 | [], _, _ => List.Pairwise.nil
 | a :: l, hs, hn => by
  rw [List.map_cons, List.nodup_cons] at hn
  have h1 := List.pairwise_cons.1 hs
  refine List.pairwise_cons.2 ⟨fun b hb => ?_, sorted_strict h1.2 hn.2⟩
  rcases Std.lt_trichotomy a.key b.key with h | h | h
  · exact h
  · exact absurd (by rw [h]; exact List.mem_map_of_mem hb) hn.1
  · exact absurd h (h1.1 b hb)
set_option maxRecDepth 100000 in
set_option maxHeartbeats 4000000 in
theorem fits_ok (w : World) (base : Nat) (v : Value) (l : List Cel) (h : w.ownsRow base 33 4 v l.length (flatC l)) (hok : ∀ c, c ∈ l → c.ok) (hn : (l.map Cel.key).Nodup) (hl : l.length ≤ 200) :
 Calls Tryz.prog 225 #[v] w fun e w' => e = .returned (.bool (decide (szs l ≤ 239))) ∧ Below w.heap.size w w' := by
 have hcl := clone_ok w base v l h (by omega)
 have hput : ∀ (l' : List Cel), l'.Perm l → SortedK Cel.key l' → ∀ W A cap, Cels W A l' → Calls Tryz.prog 195 #[.slice A l.length cap] W fun e w' => ∃ U : ByteArray, e = .returned (.tuple #[.string U, .bool (decide (szs l ≤ 239))]) ∧ Below W.heap.size W w' := fun l' hp hs W A cap hA => by
  refine (putAll_any A l.length cap l' W hp.length_eq.symm (by have := hp.length_eq; omega) hA (fun c hc => hok c (hp.mem_iff.1 hc)) (sorted_strict hs ((hp.map Cel.key).nodup_iff.2 hn))).mono ?_
  rintro e w' ⟨rfl, hb⟩
  rw [← szs_perm hp]
  unfold putRes
  by_cases h9 : szs l' ≤ 239
  · rw [if_pos h9, decide_eq_true h9]; exact ⟨_, rfl, hb⟩
  · rw [if_neg h9, decide_eq_false h9]; exact ⟨_, rfl, hb⟩
 have HP := Lib.hid hput
 generalize hR : decide (szs l ≤ 239) = R at *
 have HL := Lib.hid hl
 clear h hok hn hput hR
 go_enter Tryz.func225, Tryz.ntmps225
 go_wp2_with fail
 with_reducible refine hcl.mono ?_
 rintro e w1 ⟨A, cap, rfl, ho, hb⟩
 have hs := sortFits_any w1 w.heap.size l.length cap A l ho rfl (by omega)
 have HB := Lib.hid hb
 clear ho hb hcl
 go_wp2_with fail
 with_reducible refine hs.mono ?_
 rintro e w2 ⟨rfl, l', h1, h2, h3, h4⟩
 have hpt := HP.out l' h1 h2 w2 A cap (by have h9 := h3; rw [← h1.length_eq] at h9; exact Cels.of_own h9)
 have B2 := Lib.hid (HB.out.trans (h4.to_below HB.out.size (fun i hi => hi)))
 clear h1 h2 h3 h4 hs
 go_wp2_with fail
 with_reducible refine hpt.mono ?_
 rintro e w3 ⟨U, rfl, hb3⟩
 have B3 := Lib.hid (below_base B2.out B2.out.size hb3)
 clear hpt hb3
 go_wp2_with fail
 go_ret
 exact ⟨rfl, B3.out⟩
end Go.Proofs.YtijhamllnnilbaaGreatDoor.Ha
namespace Go.Proofs.YtijhamllnnilbaaGreatDoor.Ha
open Go.RowKit Go.Proofs.YtijhamllnnilbaaGreatDoor.Mem Go.Proofs.YtijhamllnnilbaaGreatDoor.Pg Go.Proofs.YtijhamllnnilbaaGreatDoor.Kp Go.Proofs.YtijhamllnnilbaaGreatDoor.Sp Go.Proofs.YtijhamllnnilbaaGreatDoor.Gr
set_option linter.unusedSimpArgs false
set_option linter.unusedVariables false
structure Ty (w0 w : World) (gb mb sb qb c n D : Nat) (pg0 : Nat → Pag) (t : Tri) (X : List Nat) (tk0 : Int) (h cb C i last : Nat) (wr : World) : Prop where
 ex : ∃ (L : List (Nat × Pag)) (pgi : Nat → Pag) (mli : List UInt8) (m : Nat) (q : Pag), L.length = (t.at' h).pgs.length ∧ L[last]? = some (m, q) ∧
  (pagsN 3 (t.dep h : Nat) (tidP ((t.at' h).pgs.take i)) (nextF ((t.at' h).pgs.drop i)))[(tidP ((t.at' h).pgs.take i)).length - 1]? = some (m, q) ∧ last < i ∧ (∀ j, i ≤ j → L[j]? = ((t.at' h).pags (t.dep h))[j]?) ∧ Ch C wr cb gb L ∧
  St w0 wr gb mb sb qb c n pgi D (updB t h (tidP ((t.at' h).pgs.take i) ++ (t.at' h).pgs.drop i)) mli X tk0 ∧ (∀ k, lookT (updB t h (tidP ((t.at' h).pgs.take i) ++ (t.at' h).pgs.drop i)) k = lookT t k) ∧ SameX X pg0 pgi
 frm : Ck w0.heap.size gb mb C w wr
def TidyPost (w0 w' : World) (gb mb sb qb c n D : Nat) (pg : Nat → Pag) (t' t : Tri) (X : List Nat) (tk0 : Int) : Prop := ∃ pg' ml', St w0 w' gb mb sb qb c n pg' D t' ml' X tk0 ∧ (∀ k, lookT t' k = lookT t k) ∧ SameX X pg pg'
set_option maxRecDepth 100000 in
set_option maxHeartbeats 8000000 in
theorem tidy_ok (w0 w : World) (gb mb sb qb c n D cb C h : Nat) (pg : Nat → Pag) (t : Tri) (ml : List UInt8) (X : List Nat) (tk0 : Int) (hS : St w0 w gb mb sb qb c n pg D t ml X tk0) (hc : Ch C w cb gb ((t.at' h).pags (t.dep h))) (hC : w0.heap.size ≤ C ∧ gb < C ∧ mb < C) (hk : -900000 ≤ tk0 ∧ tk0 ≤ 900000) :
 Calls Tryz.prog 80 #[.pointer (some ⟨cb, 0, none⟩)] w fun e w' => e = .returned (.int .i64 0) ∧ TidyPost w0 w' gb mb sb qb c n D pg (updB t h (tidP (t.at' h).pgs)) t X tk0 ∧ Ck w0.heap.size gb mb C w w' := by
 have hm := t.at_mem h
 have hlen := (hS.hs.tb.chn hS.gv.n64 h).len
 have hfits := hS.hs.tb.fits _ hm
 have hLl : ((t.at' h).pags (t.dep h)).length = (t.at' h).pgs.length := by unfold Lf.pags; exact pagsF_len ..
 obtain ⟨N, hN⟩ : ∃ N, N = (t.at' h).pgs.length := ⟨_, rfl⟩
 have hpos : 0 < N := by rw [hN]; exact Nat.succ_pos _
 have hps1 : (t.at' h).pgs = ((t.at' h).n, (t.at' h).cs) :: (t.at' h).ov := rfl
 have hself : updB t h ((t.at' h).pgs) = t := by
  unfold updB
  rw [lfOf_self, ← Tri.sub_dep, Tri.upd_sub]
 have R0 : Hid (Ty w0 w gb mb sb qb c n D pg t X tk0 h cb C 1 0 w) := Lib.hid ⟨⟨_, pg, ml, (t.at' h).n, ⟨3, (t.dep h : Nat), (nextF (t.at' h).ov : Nat), bodyF (t.at' h).cs⟩, hLl, rfl, rfl, Nat.zero_lt_one, fun _ _ => rfl, hc, by
  have e : tidP ((t.at' h).pgs.take 1) ++ (t.at' h).pgs.drop 1 = (t.at' h).pgs := rfl
  rw [e, hself]
  exact ⟨hS, fun _ => rfl, .refl _ _⟩⟩, .of_below (Below.refl _ _)⟩
 have hNl : N ≤ 64 := by omega
 have HN := Lib.hid hN
 have HFT := Lib.hid hfits
 have hgb := hS.gv.base
 clear hS hc hself hm hfits hps1 hN hLl hlen
 go_enter Tryz.func80, Tryz.ntmps80
 go_wp2_with fail
 go_loopg [3, 4] (N - 1) (fun g v3 v4 wr => ∃ i last : Nat, v3 = .int .i64 (last : Nat) ∧ v4 = .int .i64 (i : Nat) ∧ g + i = N ∧ 1 ≤ i ∧ Hid (Ty w0 w gb mb sb qb c n D pg t X tk0 h cb C i last wr))
 case atStart => exact ⟨1, 0, rfl, rfl, by omega, Nat.le_refl _, R0⟩
 case round =>
  clear R0
  obtain ⟨i, last, rfl, rfl, hgi, hi1, R1⟩ := hrel
  obtain ⟨L, pgi, mli, m, q, hLn, hq, hqK, hli, hLd, hch, hst, hlk, hsx⟩ := R1.out.ex
  rw [← HN.out] at hLn
  obtain ⟨nb, pb, cn, cp, hf⟩ := hch.form (by omega)
  have FR := Lib.hid R1.out.frm
  have CH := Lib.hid hch
  have ST := Lib.hid hst
  have LK := Lib.hid hlk
  have SX := Lib.hid hsx
  have LN := Lib.hid hLn
  have HF := Lib.hid hf
  have hblk := hf.blk
  rw [hLn] at hblk
  have cc := blk_cell hblk
  have lc := lt_of_block hblk
  by_cases hlt : i < N
  · have hltI : (i : Int) < (N : Int) := by omega
    have i1 : IntKind.i64.wrap ((i : Int) + 1) = (i : Int) + 1 := IntWalk.i64_in _ (by omega)
    have hlast : (last : Int) < (N : Int) := by omega
    obtain ⟨ni, csi, hpi⟩ : ∃ ni csi, (t.at' h).pgs[i]? = some (ni, csi) := by
     have h1 : i < (t.at' h).pgs.length := by rw [← HN.out]; exact hlt
     exact ⟨_, _, List.getElem?_eq_getElem h1⟩
    obtain ⟨hil, hie⟩ := List.getElem?_eq_some_iff.1 hpi
    have hLi : L[i]? = some (ni, ⟨4, 0, (nextF ((t.at' h).pgs.drop (i + 1)) : Nat), bodyF csi⟩) := by
     rw [hLd i (Nat.le_refl _)]
     unfold Lf.pags
     rw [pagsF_get _ _ _ i hil, if_neg (by omega), if_neg (by omega), hie]
    have hdrop : (t.at' h).pgs.drop i = (ni, csi) :: (t.at' h).pgs.drop (i + 1) := by rw [List.drop_eq_getElem_cons hil, hie]
    have htake : (t.at' h).pgs.take (i + 1) = (t.at' h).pgs.take i ++ [(ni, csi)] := by rw [List.take_succ_eq_append_getElem hil, hie]
    have htne : (t.at' h).pgs.take i ≠ [] := fun e => by
     have := congrArg List.length e
     rw [List.length_take] at this
     simp only [List.length_nil] at this
     omega
    have hfi : Fits csi := HFT.out (ni, csi) (List.mem_of_getElem? hpi)
    have hcells := fun W => bCells_ok ⟨4, 0, (nextF ((t.at' h).pgs.drop (i + 1)) : Nat), bodyF csi⟩ csi ⟨.inr rfl, rfl, hfi⟩ W
    obtain ⟨c0, c1, c2, c3⟩ := hf.pag i ni _ hLi
    obtain ⟨d0, d1, d2, d3⟩ := hf.pag last m q hq
    have lp := hf.pl
    have hts := tidP_snoc htne (ni, csi)
    have hKne := tidP_ne htne
    have HKN := Lib.hid hKne
    have HLI := Lib.hid hLi
    have HDR := Lib.hid hdrop
    have HTS := Lib.hid (htake ▸ hts)
    have HQ := Lib.hid hq
    have HQK := Lib.hid hqK
    have HLD := Lib.hid hLd
    obtain ⟨NX, hNX⟩ : ∃ x, x = nextF ((t.at' h).pgs.drop (i + 1)) := ⟨_, rfl⟩
    rw [← hNX] at c2 hcells
    obtain ⟨S, hS⟩ : ∃ S, S = str (bodyF csi) := ⟨_, rfl⟩
    simp only [Pag.v] at hcells
    rw [← hS] at hcells c3
    have HNX := Lib.hid hNX
    have HB := Lib.hid hblk
    clear hNX hS hLi hdrop htake hts hpi hil hie hq hqK hLd hch hst hlk hsx hf R1 hblk
    simp only at c0 c1 c2 c3
    go_wp2_with fail
    with_reducible refine (hcells _).mono ?_
    rintro e w6 ⟨A6, c6, rfl, _, hb6⟩
    have B6 := Lib.hid hb6
    by_cases hemp : csi = []
    · subst hemp
      have HT0 : Hid (tidP ((t.at' h).pgs.take (i + 1)) = tidP ((t.at' h).pgs.take i)) := Lib.hid (by rw [HTS.out]; simp)
      have blk6 := blk_keep HB.out hb6
      have cc6 := blk_cell blk6
      have lc6 := lt_of_block blk6
      have lp6 : pb < w6.heap.size := Nat.lt_of_lt_of_le lp hb6.size
      have e2 := (hb6.cell (p := ⟨pb, i * 4 + 2, none⟩) lp).trans c2
      have f0 := (hb6.cell (p := ⟨pb, last * 4, none⟩) lp).trans d0
      have f1 := (hb6.cell (p := ⟨pb, last * 4 + 1, none⟩) lp).trans d1
      have f2 := (hb6.cell (p := ⟨pb, last * 4 + 2, none⟩) lp).trans d2
      have f3 := (hb6.cell (p := ⟨pb, last * 4 + 3, none⟩) lp).trans d3
      obtain ⟨md, mx, hmap⟩ := ST.out.hs.map
      have hat := at_upd_self t h (lfOf (tidP ((t.at' h).pgs.take i) ++ (t.at' h).pgs.drop i))
      have hKl : (tidP ((t.at' h).pgs.take i)).length - 1 + 1 = (tidP ((t.at' h).pgs.take i)).length := by
       have := List.length_pos_iff.2 HKN.out
       omega
      have hQ : ((updB t h (tidP ((t.at' h).pgs.take i) ++ (t.at' h).pgs.drop i)).at' h).pgs = tidP ((t.at' h).pgs.take i) ++ (ni, []) :: (t.at' h).pgs.drop (i + 1) := by
       unfold updB
       rw [hat.1, lfOf_pgs (by simp [HKN.out]), HDR.out]
      have hqi : (((updB t h (tidP ((t.at' h).pgs.take i) ++ (t.at' h).pgs.drop i)).at' h).pags ((updB t h (tidP ((t.at' h).pgs.take i) ++ (t.at' h).pgs.drop i)).dep h))[(tidP ((t.at' h).pgs.take i)).length - 1]? = some (m, q) := by
       unfold Lf.pags
       rw [hQ, pagsF_app _ _ _ _ HKN.out, List.getElem?_append_left (by rw [pagsN_len]; omega)]
       have e1 : (updB t h (tidP ((t.at' h).pgs.take i) ++ (t.at' h).pgs.drop i)).dep h = t.dep h := hat.2
       rw [e1]
       have h9 := HQK.out
       rw [HDR.out] at h9
       exact h9
      have hdr := ST.out.hs.drop h (tidP ((t.at' h).pgs.take i)) ((t.at' h).pgs.drop (i + 1)) ni m _ q hQ hKl hqi hmap
      have hdl := drop_len _ h (tidP ((t.at' h).pgs.take i)) ((t.at' h).pgs.drop (i + 1)) ni hQ HKN.out
      rw [updB_twice] at hdr hdl
      obtain ⟨hbt, hn2, hnn, hH, hlk2, hsx2, _, hqN⟩ := hdr
      have hdE : (updB t h (tidP ((t.at' h).pgs.take i) ++ (t.at' h).pgs.drop i)).dep h = t.dep h := hat.2
      rw [hdE] at hqN
      have hmN : m ∈ numsF (updB t h (tidP ((t.at' h).pgs.take i) ++ (t.at' h).pgs.drop i)).leaves := by
       refine numsF_mem (Tri.at_mem _ h) ?_
       have h0 := congrArg (Option.map (·.1)) hqi
       rw [← List.getElem?_map] at h0
       unfold Lf.pags at h0
       rw [pagsF_nums] at h0
       exact List.mem_of_getElem? h0
      have hmr := ST.out.hs.tb.rng m hmN
      have hqok : q.ok := by
       have h2 := ST.out.hs.tb.shown h _ (List.mem_of_getElem? hqi)
       simp only at h2
       rw [← h2]
       exact ST.out.gv.ok hmr.2
      have hnx64 : nextF ((t.at' h).pgs.drop (i + 1)) < 64 := by
       have h64 := ST.out.gv.n64
       cases e : (t.at' h).pgs.drop (i + 1) with
       | nil => show (0 : Nat) < 64; omega
       | cons a r =>
        show a.1 < 64
        have h1 : a.1 ∈ numsF (updB t h (tidP ((t.at' h).pgs.take i) ++ (t.at' h).pgs.drop i)).leaves := by
         refine numsF_mem (Tri.at_mem _ h) ?_
         unfold Lf.nums
         rw [hQ, e]
         simp
        have := (ST.out.hs.tb.rng _ h1).2
        omega
      have hL64 := numsF_len ST.out.hs
      have h64 := ST.out.gv.n64
      obtain ⟨qk, qd, qx, ql⟩ := q
      have hpok : Pag.ok ⟨qk, qd, (NX : Nat), ql⟩ := by
       obtain ⟨h1, h2, h3, h4, h5, h6, h7⟩ := hqok
       exact ⟨h1, h2, h3, h4, by simp only; omega, by have := HNX.out; simp only; omega, h7⟩
      have hput := fun W (hW : GV w0 W gb mb sb qb c n pgi (tk0 + ((numsF (updB t h (tidP ((t.at' h).pgs.take i) ++ (t.at' h).pgs.drop i)).leaves).length : Int))) (hcW : Ch C W cb gb L) => cput_ok w0 W gb mb sb qb c n cb C last m pgi _ L ⟨qk, qd, (NX : Nat), ql⟩ ⟨qk, qd, qx, ql⟩ hW hcW hC HQ.out hmr.2 hpok (by have := LN.out; omega)
      have hgive := fun W (hW : GV w0 W gb mb sb qb c n (updN pgi m ⟨qk, qd, (NX : Nat), ql⟩) (tk0 + ((numsF (updB t h (tidP ((t.at' h).pgs.take i) ++ (t.at' h).pgs.drop i)).leaves).length : Int))) => hW.giveW (i := ni) (by rw [updN_other _ _ (by omega)]; exact hmap) ST.out.hs.is (by omega) hn2 hnn hbt
      rw [← HNX.out] at hH hsx2
      have HH := Lib.hid hH
      have HLK2 := Lib.hid (And.intro hlk2 hsx2)
      have HQN := Lib.hid hqN
      have HDL := Lib.hid hdl
      have HGV := Lib.hid hgive
      have HKL := Lib.hid hKl
      simp only [Pag.v] at hput
      obtain ⟨Tq, hTq⟩ : ∃ S, S = str ql := ⟨_, rfl⟩
      rw [← hTq] at hput
      simp only at f0 f1 f2 f3
      rw [← hTq] at f3
      have CH7 := (CH.out.below B6.out).below (below_al (Below.refl _ w6) (pagO qk qd (NX : Nat) Tq))
      have G7 := (ST.out.gv.rk B6.out).rk (below_al (Below.refl _ w6) (pagO qk qd (NX : Nat) Tq))
      have hpt := hput _ G7 CH7
      clear hat hKl hQ hqi hdl hbt hn2 hnn hH hlk2 hsx2 hqN hmN hmr hqok hnx64 hpok hput hgive CH7 G7 hmap hTq c0 c1 c2 c3 d0 d1 d2 d3 cc lc lp hcells hb6 blk6
      go_wp2_with fail
      with_reducible refine hpt.mono ?_
      rintro e w8 ⟨rfl, hch8, hg8, hk8⟩
      obtain ⟨nb8, pb8, cn8, cp8, hf8⟩ := hch8.form (by rw [List.length_set]; have := LN.out; omega)
      have hN8 : (L.set last (m, (⟨qk, qd, (NX : Nat), ql⟩ : Pag)))[i]? = some (ni, ⟨4, 0, (nextF ((t.at' h).pgs.drop (i + 1)) : Nat), bodyF []⟩) := by
       rw [List.getElem?_set_ne (by omega)]
       exact HLI.out
      have cN := hf8.num i ni _ hN8
      have lN := hf8.nl
      have hblk8 := hf8.blk
      rw [List.length_set, LN.out] at hblk8
      have HB8 := Lib.hid hblk8
      have CH8 := Lib.hid hch8
      have G8 := Lib.hid hg8
      have K8 := Lib.hid ((FR.out.trans (.of_below B6.out)).trans (Ck.trans (.of_below (below_al (Below.refl _ w6) (pagO qk qd (NX : Nat) Tq))) hk8))
      have HCN := Lib.hid cN
      have hniN : (i : Int) < (N : Int) := hltI
      clear hch8 hg8 hk8 hf8 hN8 hblk8 cN hpt e2 f0 f1 f2 f3 cc6 lc6 lp6
      go_wp2_with fail
      refine Ra.wp_region_A (S := (Bz w8)) [3, 7, 9, 10] (by kernel_rfl) (below_dr (Below.refl _ _)) (fun hHeld => ?_)
      refine Ra.WT 0 ?_ ?_ ?_
      rotate_left
      · intro wq hSw
        go_simp
        try with_reducible rfl
      try simp only [Act.put, pX]
      refine Ra.WT 1 ?_ ?_ ?_
      rotate_left
      · intro wq hSw
        go_simp
        try with_reducible rfl
      try simp only [Act.put, pX]
      refine Ra.WT 2 ?_ ?_ ?_
      rotate_left
      · intro wq hSw
        go_simp
        try with_reducible rfl
      try simp only [Act.put, pX]
      refine Ra.WT 4 ?_ ?_ ?_
      rotate_left
      · intro wq hSw
        go_simp
        try with_reducible rfl
      try simp only [Act.put, pX]
      refine Ra.WT 5 ?_ ?_ ?_
      rotate_left
      · intro wq hSw
        go_simp
        try with_reducible rfl
      try simp only [Act.put, pX]
      refine Ra.WT 6 ?_ ?_ ?_
      rotate_left
      · intro wq hSw
        go_simp
        try with_reducible rfl
      try simp only [Act.put, pX]
      refine Ra.WT 8 ?_ ?_ ?_
      rotate_left
      · intro wq hSw
        go_simp
        try with_reducible rfl
      try simp only [Act.put, pX]
      refine Ra.WA 3 ?_ ?_ hHeld ?_
      rotate_left
      · intro wq hSw
        have hSc := blk_cell (blk_keep HB8.out hSw); have hSl := lt_of_block (blk_keep HB8.out hSw); have hSd := (Below.cell hSw (p := ⟨nb8, i, none⟩) lN).trans HCN.out; have hSe := Nat.lt_of_lt_of_le lN (Below.size hSw)
        go_simp
        try with_reducible rfl
      try simp only [Act.put, pX]
      refine Ra.WA 7 ?_ ?_ hHeld ?_
      rotate_left
      · intro wq hSw
        have hSc := blk_cell (blk_keep HB8.out hSw); have hSl := lt_of_block (blk_keep HB8.out hSw); have hSd := (Below.cell hSw (p := ⟨nb8, i, none⟩) lN).trans HCN.out; have hSe := Nat.lt_of_lt_of_le lN (Below.size hSw)
        go_simp
        try with_reducible rfl
      try simp only [Act.put, pX]
      refine Ra.WA 9 ?_ ?_ hHeld ?_
      rotate_left
      · intro wq hSw
        have hSc := blk_cell (blk_keep HB8.out hSw); have hSl := lt_of_block (blk_keep HB8.out hSw); have hSd := (Below.cell hSw (p := ⟨nb8, i, none⟩) lN).trans HCN.out; have hSe := Nat.lt_of_lt_of_le lN (Below.size hSw)
        go_simp
        try rw [if_neg (by omega)]
        try rw [if_pos (by omega)]
        try with_reducible rfl
      try simp only [Act.put, pX]
      refine Ra.WA 10 ?_ ?_ hHeld ?_
      rotate_left
      · intro wq hSw
        have hSc := blk_cell (blk_keep HB8.out hSw); have hSl := lt_of_block (blk_keep HB8.out hSw); have hSd := (Below.cell hSw (p := ⟨nb8, i, none⟩) lN).trans HCN.out; have hSe := Nat.lt_of_lt_of_le lN (Below.size hSw)
        go_simp
        try with_reducible rfl
      try simp only [Act.put, pX]
      refine Ra.wpA_ready (rs := [11]) (by kernel_rfl) (by simp) ?_
      refine Ra.AllReadyA.late rfl rfl (fun K hK => ?_) Ra.AllReadyA.nil
      rw [if_pos (by kernel_rfl)]
      go_simp
      (with_reducible refine (HGV.out _ (G8.out.rk (below_dr (Below.refl _ _)))).mono ?_)
      rintro e w9 ⟨rfl, g9, k9⟩
      go_simp
      refine hK.out _ _ (trivial) (fun hHeld2 => ?_)
      clear hK K
      try clear hHeld
      have hHeld := hHeld2
      try clear hHeld2
      refine Ra.WT 12 ?_ ?_ ?_
      rotate_left
      · intro wq hSw
        go_simp
        try with_reducible rfl
      try simp only [Act.put, pX]
      refine Ra.wpA_done (by kernel_rfl) ?_ _
      clear hHeld
      have W89 : Wk w0.heap.size gb mb w8 w9 := (Wk.of_below (below_dr (Below.refl _ w8))).trans k9
      have RN : Hid (Ty w0 w gb mb sb qb c n D pg t X tk0 h cb C (i + 1) last w9) := Lib.hid ⟨⟨_, _, _, m, ⟨qk, qd, (NX : Nat), ql⟩, by rw [List.length_set, LN.out, HN.out], List.getElem?_set_self (by have := LN.out; omega), by
       rw [HT0.out]
       have h1 := (pagsN_last (tidP ((t.at' h).pgs.take i)) 3 (t.dep h : Nat) ni (nextF ((t.at' h).pgs.drop (i + 1))) _ m ⟨qk, qd, qx, ql⟩ HKL.out HQN.out).1
       rw [h1, HNX.out]
       exact List.getElem?_set_self (List.getElem?_eq_some_iff.1 HQN.out).1, by omega, fun j hj => by
       rw [List.getElem?_set_ne (by omega)]
       exact HLD.out j (by omega), CH8.out.wk W89 hC.1 hC.2.1 hC.2.2, by
       rw [HT0.out]
       refine ⟨⟨?_, HH.out⟩, fun k => (HLK2.out.1 k).trans (LK.out k), SX.out.trans HLK2.out.2⟩
       have h1 := HDL.out
       have e1 : tk0 + ((numsF (updB t h (tidP ((t.at' h).pgs.take i) ++ (t.at' h).pgs.drop i)).leaves).length : Int) - 1 = tk0 + ((numsF (updB t h (tidP ((t.at' h).pgs.take i) ++ (t.at' h).pgs.drop (i + 1))).leaves).length : Int) := by omega
       rw [← e1]
       exact g9⟩, K8.out.trans (.of_wk W89)⟩
      clear g9 k9 W89
      go_wp2_with fail
      go_roundg (gk - 1)
      case measure => omega
      case rel => exact ⟨i + 1, last, rfl, by go_num, by omega, by omega, RN⟩
    · have hlen0 : (0 : Int) < (csi.length : Int) := by
       have := List.length_pos_iff.2 hemp
       omega
      have RN : Hid (Ty w0 w gb mb sb qb c n D pg t X tk0 h cb C (i + 1) i w6) := Lib.hid ⟨⟨L, pgi, mli, ni, ⟨4, 0, (nextF ((t.at' h).pgs.drop (i + 1)) : Nat), bodyF csi⟩, by rw [LN.out, HN.out], HLI.out, by
       rw [HTS.out, if_neg hemp]
       have h1 := pagsN_snoc (tidP ((t.at' h).pgs.take i)) 3 (t.dep h : Nat) (ni, csi) (nextF ((t.at' h).pgs.drop (i + 1))) HKN.out
       rw [List.length_append]
       exact h1, Nat.lt_succ_self _, fun j hj => HLD.out j (by omega), CH.out.below B6.out, by
       rw [HTS.out, if_neg hemp, List.append_assoc]
       have e : [(ni, csi)] ++ (t.at' h).pgs.drop (i + 1) = (t.at' h).pgs.drop i := HDR.out.symm
       rw [e]
       exact ⟨⟨ST.out.gv.rk B6.out, ST.out.hs⟩, LK.out, SX.out⟩⟩, FR.out.trans (.of_below B6.out)⟩
      clear hemp c0 c1 c2 c3 d0 d1 d2 d3 cc lc lp hcells hb6
      go_wp2_with fail
      go_roundg (gk - 1)
      case measure => omega
      case rel => exact ⟨i + 1, i, rfl, by go_num, by omega, by omega, RN⟩
  · obtain rfl : i = N := by omega
    have hltI : ¬ (i : Int) < (i : Int) := by omega
    have hall : (t.at' h).pgs.take i = (t.at' h).pgs ∧ (t.at' h).pgs.drop i = [] := by
     rw [HN.out]
     exact ⟨List.take_length .., List.drop_length ..⟩
    rw [hall.1, hall.2, List.append_nil] at hst hlk
    have ST2 := Lib.hid hst
    have LK2 := Lib.hid hlk
    clear hq hqK hLd hch hst hlk hsx hf R1 hblk hall
    go_wp2_with fail
    go_ret
    exact ⟨rfl, ⟨pgi, mli, ST2.out, LK2.out, SX.out⟩, FR.out⟩
end Go.Proofs.YtijhamllnnilbaaGreatDoor.Ha
