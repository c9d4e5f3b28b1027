/- Lemmas of the claim, in their order:
- An empty table. No program in sight.
- The contract of hash.filled.
- How many pages are free. No program in sight.
- Keys put in without growing: the table's pages. No program in sight.
-/
import Derived.Test.YtijhamllnnilbaaGreatDoorP28
import Derived.Test.YtijhamllnnilbaaGreatDoorP30
set_option linter.unusedVariables false
set_option linter.unusedSimpArgs false
namespace Go.Proofs.YtijhamllnnilbaaGreatDoor.Ha
open Go.RowKit Go.Proofs.YtijhamllnnilbaaGreatDoor.Mem Go.Proofs.YtijhamllnnilbaaGreatDoor.Pg Go.Proofs.YtijhamllnnilbaaGreatDoor.Gr Go.Proofs.YtijhamllnnilbaaGreatDoor.Sp
set_option linter.unusedVariables false
set_option linter.unusedSimpArgs false
def t00 : Tri := .leaf ⟨2, [], []⟩
def pgNew (n : Nat) : Nat → Pag := fun i => if i = 0 then ⟨1, 0, 0, Dr.bodyOf [2]⟩ else if i = 1 then ⟨2, 0, 0, fmtL n⟩ else if i = 2 then ⟨3, 0, 0, zs 240⟩ else Pag.zero
theorem ents00 : entsF 0 t00 = [2] := rfl
theorem hs_new (n : Nat) (h8 : 8 ≤ n) (h64 : n ≤ 64) : Hs n (pgNew n) 0 t00 (fmtL n) [] := by
 have hm := isMap_new n h8 h64
 have hb := bt_newL n (by omega)
 have hl := newL_len n
 refine ⟨⟨Nat.le_refl _, by omega, ?_, fun i q hq => ?_, fun b hb p hp => ?_, ?_, fun m hm => ?_, fun b hb c hc => ?_, fun b hb => ?_⟩, ⟨0, 0, rfl⟩, hm.set 2 1 (by omega) (by omega) (.inl rfl), fun m h2 hmn => ?_, fun m hm => by simp at hm, fun m hm => by simp at hm, List.nodup_nil⟩
 · show _ = dirF 0 t00
   unfold dirF
   rw [ents00]; rfl
 · have hq' : q ∈ [((2 : Nat), (⟨3, 0, 0, bodyF []⟩ : Pag))] := hq
   rw [List.mem_singleton] at hq'
   subst hq'
   rw [bodyF_nil]; rfl
 · rw [List.mem_singleton.1 (show b ∈ [(⟨2, [], []⟩ : Lf)] from hb)] at hp
   rw [List.mem_singleton.1 (show p ∈ [((2 : Nat), ([] : List Cel))] from hp)]
   exact fits_nil
 · show [2].Nodup
   simp
 · rw [List.mem_singleton.1 (show m ∈ [2] from hm)]; omega
 · rw [List.mem_singleton.1 (show b ∈ [(⟨2, [], []⟩ : Lf)] from hb)] at hc
   exact absurd (show c ∈ ([] : List Cel) from hc) (by simp)
 · rw [List.mem_singleton.1 (show b ∈ [(⟨2, [], []⟩ : Lf)] from hb)]
   exact List.nodup_nil
 · unfold fmtL
   rw [bt_set _ _ _ (by rw [hl]; omega), hb m]
   show _ ↔ m ∈ [2] ∨ m ∈ []
   by_cases e : 2 = m
   · subst e; simp
   · rw [if_neg e, if_pos hmn, if_neg (by omega)]
     simp
     omega
theorem look00 (k : List UInt8) : lookT t00 k = none := rfl
theorem has00 (k : List UInt8) (i : Nat) : ¬ has k (t00.at' i).cells := fun ⟨c, h, _⟩ => by
 exact absurd (show c ∈ ([] : List Cel) from h) (by simp)
end Go.Proofs.YtijhamllnnilbaaGreatDoor.Ha
namespace Go.Proofs.YtijhamllnnilbaaGreatDoor.Ha
open Go.RowKit Go.Proofs.YtijhamllnnilbaaGreatDoor.Mem Go.Proofs.YtijhamllnnilbaaGreatDoor.Pg Go.Proofs.YtijhamllnnilbaaGreatDoor.Kp Go.Proofs.YtijhamllnnilbaaGreatDoor.Sp Go.Proofs.YtijhamllnnilbaaGreatDoor.Gr
set_option linter.unusedSimpArgs false
set_option linter.unusedVariables false
theorem perm_sorted : ∀ {m l : List Cel}, l.Perm m → SortedK Cel.key l → Sorted m → l = m
 | [], l, hp, _, _ => hp.eq_nil
 | a :: m, [], hp, _, _ => absurd hp.length_eq (by simp)
 | a :: m, b :: l, hp, hl, hm => by
  have hab : b = a := by
   have h1 : b ∈ a :: m := hp.subset (List.mem_cons_self ..)
   have h2 : a ∈ b :: l := hp.symm.subset (List.mem_cons_self ..)
   rcases List.mem_cons.1 h1 with h | h
   · exact h
   rcases List.mem_cons.1 h2 with h' | h'
   · exact h'.symm
   · exact absurd (hm.head b h) ((List.pairwise_cons.1 hl).1 a h')
  subst hab
  rw [perm_sorted (List.Perm.cons_inv hp) (List.pairwise_cons.1 hl).2 hm.tail]
set_option maxRecDepth 100000 in
set_option maxHeartbeats 4000000 in
theorem filled_ok (w : World) (base : Nat) (v : Value) (l m : List Cel) (d : Nat) (h : w.ownsRow base 33 4 v l.length (flatC l)) (hp : m.Perm l) (hf : Fits m) :
 Calls Tryz.prog 146 #[.int .i64 d, v] w fun e w' => e = .returned (⟨3, (d : Nat), 0, bodyF m⟩ : Pag).v ∧ Below w.heap.size w w' := by
 have hlen : l.length ≤ 59 := by rw [← hp.length_eq]; exact hf.len
 have hem := fun W => empty_any 3 d W
 have hsort := fun W base (h : World.ownsRow W base 33 4 v l.length (flatC l)) => (sorted_ok W base v l h (by omega)).mono (R' := fun e w' => ∃ A cap, e = .returned (.slice A m.length cap) ∧ Cels w' A m ∧ Below W.heap.size W w') (fun e w' ⟨A, cap, l', h1, h2, h3, h4, h5⟩ => by
  have e1 : l' = m := perm_sorted (h3.trans hp.symm) h4 hf.sorted
  subst e1
  exact ⟨A, cap, by rw [h1, hp.length_eq], Cels.of_own h2, h5⟩)
 have hput := fun W A cap (hA : Cels W A m) => putAll_any A m.length cap m W rfl (by have := hf.len; omega) hA hf.ok hf.sorted
 unfold putRes at hput
 rw [if_pos hf.room] at hput
 simp only [Pag.v]
 obtain ⟨S, hS⟩ : ∃ S, S = str (bodyF m) := ⟨_, rfl⟩
 obtain ⟨Z, hZ⟩ : ∃ Z, Z = str (zs 240) := ⟨_, rfl⟩
 rw [← hS] at hput ⊢
 rw [← hZ] at hem
 have H0 := Lib.hid h
 clear h hp hf hS hZ
 go_enter Tryz.func146, Tryz.ntmps146
 go_wp2_with fail
 with_reducible refine (hem _).mono ?_
 rintro e w1 ⟨rfl, hb1⟩
 have y1 := hal (o := pagO 3 d 0 Z) (blk_keep (heap_alloc_new w zpO) hb1)
 have z1 := heap_alloc_new w1 (pagO 3 d 0 Z)
 have hw1 : w.heap.size < w1.heap.size := by have := hb1.size; simp at this; omega
 have B1 := Lib.hid (below_al (below_base (below_al (Below.refl _ w) zpO) (by simp) hb1) (pagO 3 d 0 Z))
 have Y1 := Lib.hid y1
 have Z1 := Lib.hid z1
 have H1 := Lib.hid (own_below H0.out B1.out)
 clear hb1 z1 y1 hem
 go_wp2_with fail
 with_reducible refine (hsort _ _ H1.out).mono ?_
 rintro e w2 ⟨A, cap, rfl, hA, hb2⟩
 have Y2 := Lib.hid (blk_keep Y1.out hb2)
 have Z2 := Lib.hid (blk_keep Z1.out hb2)
 have B2 := Lib.hid (below_base B1.out B1.out.size hb2)
 have hp2 := hput _ _ cap hA
 clear hA hb2 hsort hput
 go_wp2_with fail
 with_reducible refine hp2.mono ?_
 rintro e w3 ⟨rfl, hb3⟩
 have y3 := blk_keep Y2.out hb3
 have z3 := blk_keep Z2.out hb3
 have B3 := Lib.hid (below_base B2.out B2.out.size hb3)
 have cz := blk_cell z3
 have fz := blk_free z3
 have lz := lt_of_block z3
 have z4 := heap_setCell_same w3 w1.heap.size 3 _ _ (.string S) z3
 have y4 : (w3.setCell ⟨w1.heap.size, 3, none⟩ (.string S)).heap[w.heap.size]? = some zpO := (heap_setCell_other _ _ _ _ (show w.heap.size ≠ w1.heap.size by omega)).trans y3
 have cz4 := blk_cell z4
 have lz4 := lt_of_block z4
 have cy4 := blk_cell y4
 have fy4 := blk_free y4
 have ly4 := lt_of_block y4
 have B4 := Lib.hid (below_set (g := w1.heap.size) (j := 3) (u := .string S) B3.out (by omega))
 have y5 := set4_same y4 (.int .i64 3) (.int .i64 d) (.int .i64 0) (.string S)
 have cy5 := blk_cell y5
 have B5 := Lib.hid (below_set4 B4.out (Nat.le_refl _) (.int .i64 3) (.int .i64 d) (.int .i64 0) (.string S))
 clear y3 z3 hb3 hp2 z4 y4 y5
 go_wp2_with fail
 refine bodyPost_ret (v := .agg #[.int .i64 3, .int .i64 d, .int .i64 0, .string S]) (by simp [results, Tryz.results146, go_sem, cy5]) rfl ?_
 exact ⟨rfl, B5.out⟩
end Go.Proofs.YtijhamllnnilbaaGreatDoor.Ha
namespace Go.Proofs.YtijhamllnnilbaaGreatDoor.Ha
open Go.RowKit Go.Proofs.YtijhamllnnilbaaGreatDoor.Mem Go.Proofs.YtijhamllnnilbaaGreatDoor.Pg Go.Proofs.YtijhamllnnilbaaGreatDoor.Gr Go.Proofs.YtijhamllnnilbaaGreatDoor.Sp
set_option linter.unusedVariables false
set_option linter.unusedSimpArgs false
theorem count_range (ml : List UInt8) (b : UInt8) : ∀ n, n ≤ ml.length → (ml.take n).count b = ((List.range n).filter (fun m => decide (bt ml m = (b.toNat : Int)))).length
 | 0, _ => by simp
 | n + 1, h => by
  rw [List.take_succ_eq_append_getElem (by omega), List.count_append, count_range ml b n (by omega), List.range_succ, List.filter_append, List.length_append]
  congr 1
  by_cases e : ml[n] = b
  · have h1 := (bt_eq ml n (by omega) b).2 e
    simp [e, h1]
  · have h1 : ¬ bt ml n = (b.toNat : Int) := fun h2 => e ((bt_eq ml n (by omega) b).1 h2)
    simp [e, h1]
theorem filter_two (p q : Nat → Bool) : ∀ l : List Nat, (∀ m, m ∈ l → (p m = !(q m))) → (l.filter p).length + (l.filter q).length = l.length
 | [], _ => rfl
 | a :: l, h => by
  have h1 := h a (List.mem_cons_self ..)
  have h2 := filter_two p q l (fun m hm => h m (List.mem_cons_of_mem _ hm))
  cases e : q a with
  | true => rw [e] at h1; rw [List.filter_cons_of_neg (by simp [h1]), List.filter_cons_of_pos e]; simp; omega
  | false => rw [e] at h1; rw [List.filter_cons_of_pos (by simp [h1]), List.filter_cons_of_neg (by simp [e])]; simp; omega
variable {n D : Nat} {pg : Nat → Pag} {t : Tri} {ml : List UInt8} {X : List Nat}
theorem free_len (H : Hs n pg D t ml X) : (ml.take n).count 2 + 2 + (numsF t.leaves).length + X.length = n := by
 have h8 := H.is.ge
 have h64 := H.is.le
 have hl := H.is.len
 rw [count_range ml 2 n (by omega)]
 have hnd : ([0, 1] ++ (numsF t.leaves ++ X)).Nodup := by
  rw [List.nodup_append, List.nodup_append]
  refine ⟨by simp, ⟨H.tb.nums, H.xn, fun a ha b hb e => H.xd b hb (e ▸ ha)⟩, fun a ha b hb e => ?_⟩
  have h2 : 2 ≤ b := by
   rcases List.mem_append.1 hb with h | h
   · exact (H.tb.rng b h).1
   · exact (H.xr b h).1
  simp at ha
  omega
 have hp : ((List.range n).filter (fun m => decide (bt ml m = ((1 : UInt8).toNat : Int)))).Perm ([0, 1] ++ (numsF t.leaves ++ X)) := by
  refine (List.perm_ext_iff_of_nodup (List.nodup_range.filter _) hnd).2 fun m => ?_
  rw [List.mem_filter, List.mem_range, decide_eq_true_eq]
  show m < n ∧ bt ml m = 1 ↔ _
  simp only [List.mem_append, List.mem_cons, List.not_mem_nil, or_false]
  constructor
  · rintro ⟨h1, h2⟩
    by_cases h3 : 2 ≤ m
    · exact .inr ((H.used m h3 h1).1 h2)
    · exact .inl (by omega)
  · rintro (h | h | h)
    · rcases h with rfl | rfl
      · exact ⟨by omega, H.is.b0⟩
      · exact ⟨by omega, H.is.b1⟩
    · have := H.tb.rng m h
      exact ⟨this.2, (H.used m this.1 this.2).2 (.inl h)⟩
    · have := H.xr m h
      exact ⟨this.2, (H.used m this.1 this.2).2 (.inr h)⟩
 have hlen := hp.length_eq
 have htwo := filter_two (fun m => decide (bt ml m = ((2 : UInt8).toNat : Int))) (fun m => decide (bt ml m = ((1 : UInt8).toNat : Int))) (List.range n) (fun m hm => by
  have h1 := H.is.ok m (List.mem_range.1 hm)
  show decide (bt ml m = 2) = !decide (bt ml m = 1)
  rcases h1 with h | h <;> simp [h])
 rw [List.length_range] at htwo
 simp only [List.length_append, List.length_cons, List.length_nil] at hlen
 omega
theorem take_free (H : Hs n pg D t ml X) : takeI 2 ml < 0 ↔ (numsF t.leaves).length + X.length + 2 = n := by
 have h1 := free_len H
 have hl := H.is.len
 have h64 := H.is.le
 rcases takeI_map H.is with ⟨h2, h3⟩ | ⟨i, h2, h3, h4, h5, _⟩
 · have h6 : (ml.take n).count 2 = 0 := by
    rw [count_range ml 2 n (by omega)]
    rw [List.length_eq_zero_iff, List.filter_eq_nil_iff]
    intro m hm
    have := h3 m (List.mem_range.1 hm)
    show ¬ decide (bt ml m = 2) = true
    simp [this]
   omega
 · have h6 : 0 < (ml.take n).count 2 := by
    rw [count_range ml 2 n (by omega)]
    refine List.length_pos_of_mem (a := i) ?_
    rw [List.mem_filter, List.mem_range]
    exact ⟨h4, by show decide (bt ml i = 2) = true; simp [h5]⟩
   omega
end Go.Proofs.YtijhamllnnilbaaGreatDoor.Ha
namespace Go.Proofs.YtijhamllnnilbaaGreatDoor.Ha
open Go.RowKit Go.Proofs.YtijhamllnnilbaaGreatDoor.Mem Go.Proofs.YtijhamllnnilbaaGreatDoor.Pg Go.Proofs.YtijhamllnnilbaaGreatDoor.Gr Go.Proofs.YtijhamllnnilbaaGreatDoor.Sp
set_option linter.unusedVariables false
set_option linter.unusedSimpArgs false
theorem nodup_sub {α : Type} [BEq α] [LawfulBEq α] : ∀ (l m : List α), l.Nodup → (∀ a, a ∈ l → a ∈ m) → l.length ≤ m.length
 | [], m, _, _ => Nat.zero_le _
 | a :: l, m, hn, h => by
  have h1 := List.nodup_cons.1 hn
  have h2 := nodup_sub l (m.erase a) h1.2 (fun b hb => (List.mem_erase_of_ne (fun e => h1.1 (by rw [← e]; exact hb))).2 (h b (List.mem_cons_of_mem _ hb)))
  have h3 := h a (List.mem_cons_self ..)
  have h4 := List.length_erase_of_mem h3
  have h5 := List.length_pos_of_mem h3
  simp only [List.length_cons]
  omega
theorem szs_pages_ge {z : Nat} : ∀ (ps : List (Nat × List Cel)), (∀ p, p ∈ ps → z ≤ szs p.2) → z * ps.length ≤ szs (cellsP ps)
 | [], _ => by simp
 | p :: ps, h => by
  have h1 := h p (List.mem_cons_self ..)
  have h2 := szs_pages_ge ps (fun q hq => h q (List.mem_cons_of_mem _ hq))
  rw [cellsP_cons, szs_append, List.length_cons, Nat.mul_succ]
  omega
theorem szs_le_all {z : Nat} : ∀ (l : List Cel), (∀ c, c ∈ l → c.sz ≤ z) → szs l ≤ z * l.length
 | [], _ => by simp [szs]
 | c :: l, h => by
  have h1 := h c (List.mem_cons_self ..)
  have h2 := szs_le_all l (fun d hd => h d (List.mem_cons_of_mem _ hd))
  simp only [szs, List.map_cons, List.sum_cons, List.length_cons, Nat.mul_succ] at h2 ⊢
  omega
def celV (k : List UInt8) : Cel := ⟨k, [118], 0, 0⟩
variable {n D : Nat} {pg : Nat → Pag} {t : Tri} {ml : List UInt8} {X : List Nat} {J : List (List UInt8)}
theorem nofit_pages {x : Cel} {z : Nat} (hx : x.sz ≤ z) {ps : List (Nat × List Cel)} (hno : ¬ has x.key (cellsP ps)) (h : NoFit x ps) : (240 - z) * ps.length ≤ szs (cellsP ps) := by
 refine szs_pages_ge ps fun p hp => ?_
 obtain ⟨i, hi⟩ := List.mem_iff_getElem?.1 hp
 have h1 := h i p.1 p.2 hi
 rw [szs_ins_new (fun ⟨c, h2, h3⟩ => hno ⟨c, List.mem_flatMap.2 ⟨p, hp, h2⟩, h3⟩)] at h1
 omega
end Go.Proofs.YtijhamllnnilbaaGreatDoor.Ha
