/- Lemmas of the claim, in their order:
- The contract of reach.add.
- An empty table. No program in sight.
- The contract of hash.filled.
- How many pages are free. No program in sight.
- Keys put in without growing: the table's pages. No program in sight.
-/
import Derived.Test.YtijhamllnnilbaaGreatDoorM36
import Derived.Test.YtijhamllnnilbaaGreatDoorM37
set_option linter.unusedVariables false
set_option linter.unusedSimpArgs false
namespace Go.Proofs.YtijhamllnnilbaaGreatDoor.Ha
open Go.RowKit Go.Proofs.YtijhamllnnilbaaGreatDoor.Mem Go.Proofs.YtijhamllnnilbaaGreatDoor.Pg Go.Proofs.YtijhamllnnilbaaGreatDoor.Kp Go.Proofs.YtijhamllnnilbaaGreatDoor.Sp Go.Proofs.YtijhamllnnilbaaGreatDoor.Gr
set_option linter.unusedSimpArgs false
set_option linter.unusedVariables false
theorem toI_snoc (V : List Nat) (m : Nat) : (fun j : Int => j == (m : Int) || decide (j ∈ toI V)) = (fun j => decide (j ∈ toI (V ++ [m]))) := by
  funext j
  rw [Bool.eq_iff_iff]
  rw [Bool.or_eq_true, beq_iff_eq, decide_eq_true_eq, decide_eq_true_eq]
  unfold toI
  rw [List.map_append, List.mem_append, List.map_cons, List.map_nil, List.mem_singleton]
  exact Or.comm
theorem Rch.put {w : World} {rb mb : Nat} {V : List Nat} (h : Rch w rb mb V) {m : Nat} (hm : m ∉ V) (h64 : m < 64) (hv : V.length ≤ 64) :
    ∃ w', (Instr.mapUpdate 149 (.map (some mb)) (.int .i64 m) (.bool true)).run Tryz.prog w = .ok () w' ∧ Rch w' rb mb (V ++ [m]) ∧ w.grownBy w' (some mb) := by
  have hno : decide (((m : Nat) : Int) ∈ toI V) = false := by rw [decide_eq_false_iff_not, toI_mem]; exact hm
  obtain ⟨w', h1, h2, h3⟩ := h.map.put (m : Nat) (kl_wf (by omega) (by omega)) (by omega)
  rw [hno, if_neg (by simp), toI_snoc] at h2
  refine ⟨w', h1, ⟨?_, by rw [List.length_append]; exact h2, ?_, h.ne⟩, h3⟩
  · rw [h3.block _ (lt_of_block h.blk) (fun e => by injection e with e; exact h.ne e)]
    exact h.blk
  · rw [List.nodup_append]
    exact ⟨h.nd, by simp, fun a ha b hb e => by rw [List.mem_singleton.1 hb] at e; exact hm (e ▸ ha)⟩
theorem Rch.lookNo {w : World} {rb mb : Nat} {V : List Nat} (h : Rch w rb mb V) {m : Nat} (hm : m ∉ V) (h64 : m < 64) : (Instr.lookup 149 (.map (some mb)) (.int .i64 m) false).run Tryz.prog w = .ok (.bool false) w := by
  have h1 := h.map.look (m : Nat) (kl_wf (by omega) (by omega))
  rwa [show decide (((m : Nat) : Int) ∈ toI V) = false by rw [decide_eq_false_iff_not, toI_mem]; exact hm] at h1
theorem toI_len (l : List Nat) : (toI l).length = l.length := by simp [toI]
theorem nodup_64 {V : List Nat} (h : V.Nodup) (hl : ∀ m, m ∈ V → m < 64) : V.length ≤ 64 := nodup_lt 64 V h hl
set_option maxRecDepth 100000 in
set_option maxHeartbeats 4000000 in
theorem radd_ok (w : World) (rb mb : Nat) (V l : List Nat) (A : Option Addr) (cap : Nat) (hR : Rch w rb mb V) (hI : Ints w A l.length (toI l)) (hn : (V ++ l).Nodup) (h64 : ∀ m, m ∈ V ++ l → m < 64) (hA : ∀ b off, A = some ⟨b, off, none⟩ → b ≠ rb ∧ b ≠ mb) :
    Calls Tryz.prog 65 #[.pointer (some ⟨rb, 0, none⟩), .slice A l.length cap] w fun e w' => e = .returned (.tuple #[]) ∧ Rch w' rb mb (V ++ l) ∧ Keep (fun j => j = rb ∨ j = mb) w w' := by
  have hlen : l.length ≤ 64 := nodup_64 (List.nodup_append.1 hn).2.1 (fun m hm => h64 m (List.mem_append_right _ hm))
  have HI := Lib.hid hI
  have HN := Lib.hid hn
  have H6 := Lib.hid h64
  have HA := Lib.hid hA
  have R0 : Hid (Rch w rb mb (V ++ l.take 0)) := Lib.hid (by rw [List.take_zero, List.append_nil]; exact hR)
  have K0 : Hid (Keep (fun j => j = rb ∨ j = mb) w w) := Lib.hid (Keep.refl _ _)
  clear hI hn h64 hA hR
  go_enter Tryz.func65, Tryz.ntmps65
  go_wp2_with fail
  go_loopw [8] (fun v wr => ∃ j : Nat, v = .int .i64 (j : Nat) ∧ j ≤ l.length ∧ Hid (Rch wr rb mb (V ++ l.take j)) ∧ Hid (Keep (fun j => j = rb ∨ j = mb) w wr)) (fun v _ => l.length - (intOf v).toNat)
  case atStart => exact ⟨0, rfl, Nat.zero_le _, R0, K0⟩
  case round =>
    clear R0 K0
    obtain ⟨j, rfl, hj, R1, K1⟩ := hrel
    by_cases hlt : j < l.length
    · obtain ⟨b, off, rfl, hbl, hcell⟩ := HI.out.2.2 (by omega)
      obtain ⟨hb1, hb2⟩ := HA.out b off rfl
      have hc0 := (K1.out.cell (o := off + j) hbl (by omega)).trans (hcell j hlt)
      rw [toI_getD l j hlt] at hc0
      have hbw : b < wr.heap.size := Nat.lt_of_lt_of_le hbl K1.out.size
      have hsplit : V ++ l.take (j + 1) = (V ++ l.take j) ++ [l[j]] := by rw [List.take_succ_eq_append_getElem hlt, List.append_assoc]
      have hnd : (V ++ l.take (j + 1)).Nodup := List.Nodup.sublist ((List.take_sublist (j + 1) l).append_left V) HN.out
      have hno : l[j] ∉ V ++ l.take j := fun h => by
        rw [hsplit, List.nodup_append] at hnd
        exact hnd.2.2 _ h _ (List.mem_singleton_self _) rfl
      have h6 : l[j] < 64 := H6.out _ (List.mem_append_right _ (List.getElem_mem hlt))
      have hv6 : (V ++ l.take j).length ≤ 64 := nodup_64 R1.out.nd (fun m hm => H6.out m (by
        rcases List.mem_append.1 hm with h | h
        · exact List.mem_append_left _ h
        · exact List.mem_append_right _ (List.mem_of_mem_take h)))
      have hlk := R1.out.lookNo hno h6
      obtain ⟨LJ, hLJ⟩ : ∃ LJ, LJ = l[j] := ⟨_, rfl⟩
      rw [← hLJ] at hc0 hno h6 hlk hsplit
      have cR := blk_cell R1.out.blk
      have fR := blk_free R1.out.blk
      have lR := lt_of_block R1.out.blk
      have R2 : Rch (wr.setCell ⟨rb, 1, none⟩ (.bool false)) rb mb (V ++ l.take j) := by
        have kk : Keep (fun j => j = rb) wr (wr.setCell ⟨rb, 1, none⟩ (.bool false)) := Keep.setCell (S := fun j => j = rb) (Keep.refl _ wr) (.inl rfl) _
        exact ⟨by simpa using heap_setCell_same wr rb 1 _ _ (.bool false) R1.out.blk, R1.out.map.block (kk.block _ R1.out.map.lt (fun e => R1.out.ne e.symm)), R1.out.nd, R1.out.ne⟩
      have K2 := Lib.hid (K1.out.setCell (j := 1) (.inl (show rb = rb ∨ rb = mb from .inl rfl)) (.bool false))
      have cR2 := blk_cell R2.blk
      have lR2 := lt_of_block R2.blk
      obtain ⟨w3, hput, R3, hg3⟩ := R2.put hno h6 hv6
      rw [← hsplit] at R3
      have K3 := Lib.hid (K2.out.trans (Keep.grown (S := fun j => j = rb ∨ j = mb) hg3 (fun k hk => by injection hk with hk; exact .inr hk.symm)))
      have HR3 := Lib.hid R3
      have hjI : (j : Int) < (l.length : Int) := by omega
      have i1 : IntKind.i64.wrap ((j : Int) + 1) = (j : Int) + 1 := IntWalk.i64_in _ (by omega)
      clear hsplit hnd hno hv6 R2 R3 hg3 hLJ hcell K2 R1
      go_wp2_with fail
      refine ⟨⟨j + 1, by simp, by omega, HR3, K3⟩, ?_⟩
      clear i1
      simp [intOf]; omega
    · obtain rfl : j = l.length := by omega
      have RF := R1.out
      rw [List.take_length] at RF
      have HF := Lib.hid RF
      clear RF R1
      go_wp2_with fail
      go_end0
      exact ⟨rfl, HF.out, K1.out⟩
end Go.Proofs.YtijhamllnnilbaaGreatDoor.Ha
namespace Go.Proofs.YtijhamllnnilbaaGreatDoor.Ha
open Go.RowKit Go.Proofs.YtijhamllnnilbaaGreatDoor.Mem Go.Proofs.YtijhamllnnilbaaGreatDoor.Pg Go.Proofs.YtijhamllnnilbaaGreatDoor.Gr Go.Proofs.YtijhamllnnilbaaGreatDoor.Sp
set_option linter.unusedVariables false
set_option linter.unusedSimpArgs false
/-- An empty table's one bucket. -/
def t00 : Tri := .leaf ⟨2, [], []⟩
/-- The pages of an empty table. -/
def pgNew (n : Nat) : Nat → Pag := fun i => if i = 0 then ⟨1, 0, 0, Dr.bodyOf [2]⟩ else if i = 1 then ⟨2, 0, 0, fmtL n⟩ else if i = 2 then ⟨3, 0, 0, zs 240⟩ else Pag.zero
theorem ents00 : entsF 0 t00 = [2] := rfl
theorem hs_new (n : Nat) (h8 : 8 ≤ n) (h64 : n ≤ 64) : Hs n (pgNew n) 0 t00 (fmtL n) [] := by
  have hm := isMap_new n h8 h64
  have hb := bt_newL n (by omega)
  have hl := newL_len n
  refine ⟨⟨Nat.le_refl _, by omega, ?_, fun i q hq => ?_, fun b hb p hp => ?_, ?_, fun m hm => ?_, fun b hb c hc => ?_, fun b hb => ?_⟩, ⟨0, 0, rfl⟩, hm.set 2 1 (by omega) (by omega) (.inl rfl), fun m h2 hmn => ?_, fun m hm => by simp at hm, fun m hm => by simp at hm, List.nodup_nil⟩
  · show _ = dirF 0 t00
    unfold dirF
    rw [ents00]; rfl
  · have hq' : q ∈ [((2 : Nat), (⟨3, 0, 0, bodyF []⟩ : Pag))] := hq
    rw [List.mem_singleton] at hq'
    subst hq'
    rw [bodyF_nil]; rfl
  · rw [List.mem_singleton.1 (show b ∈ [(⟨2, [], []⟩ : Lf)] from hb)] at hp
    rw [List.mem_singleton.1 (show p ∈ [((2 : Nat), ([] : List Cel))] from hp)]
    exact fits_nil
  · show [2].Nodup
    simp
  · rw [List.mem_singleton.1 (show m ∈ [2] from hm)]; omega
  · rw [List.mem_singleton.1 (show b ∈ [(⟨2, [], []⟩ : Lf)] from hb)] at hc
    exact absurd (show c ∈ ([] : List Cel) from hc) (by simp)
  · rw [List.mem_singleton.1 (show b ∈ [(⟨2, [], []⟩ : Lf)] from hb)]
    exact List.nodup_nil
  · unfold fmtL
    rw [bt_set _ _ _ (by rw [hl]; omega), hb m]
    show _ ↔ m ∈ [2] ∨ m ∈ []
    by_cases e : 2 = m
    · subst e; simp
    · rw [if_neg e, if_pos hmn, if_neg (by omega)]
      simp
      omega
theorem look00 (k : List UInt8) : lookT t00 k = none := rfl
theorem has00 (k : List UInt8) (i : Nat) : ¬ has k (t00.at' i).cells := fun ⟨c, h, _⟩ => by
  exact absurd (show c ∈ ([] : List Cel) from h) (by simp)
end Go.Proofs.YtijhamllnnilbaaGreatDoor.Ha
namespace Go.Proofs.YtijhamllnnilbaaGreatDoor.Ha
open Go.RowKit Go.Proofs.YtijhamllnnilbaaGreatDoor.Mem Go.Proofs.YtijhamllnnilbaaGreatDoor.Pg Go.Proofs.YtijhamllnnilbaaGreatDoor.Kp Go.Proofs.YtijhamllnnilbaaGreatDoor.Sp Go.Proofs.YtijhamllnnilbaaGreatDoor.Gr
set_option linter.unusedSimpArgs false
set_option linter.unusedVariables false
/-- Sorted cells are the ones that are sorted. -/
theorem perm_sorted : ∀ {m l : List Cel}, l.Perm m → SortedK Cel.key l → Sorted m → l = m
  | [], l, hp, _, _ => hp.eq_nil
  | a :: m, [], hp, _, _ => absurd hp.length_eq (by simp)
  | a :: m, b :: l, hp, hl, hm => by
    have hab : b = a := by
      have h1 : b ∈ a :: m := hp.subset (List.mem_cons_self ..)
      have h2 : a ∈ b :: l := hp.symm.subset (List.mem_cons_self ..)
      rcases List.mem_cons.1 h1 with h | h
      · exact h
      rcases List.mem_cons.1 h2 with h' | h'
      · exact h'.symm
      · exact absurd (hm.head b h) ((List.pairwise_cons.1 hl).1 a h')
    subst hab
    rw [perm_sorted (List.Perm.cons_inv hp) (List.pairwise_cons.1 hl).2 hm.tail]
set_option maxRecDepth 100000 in
set_option maxHeartbeats 4000000 in
theorem filled_ok (w : World) (base : Nat) (v : Value) (l m : List Cel) (d : Nat) (h : w.ownsRow base 33 4 v l.length (flatC l)) (hp : m.Perm l) (hf : Fits m) :
    Calls Tryz.prog 146 #[.int .i64 d, v] w fun e w' => e = .returned (⟨3, (d : Nat), 0, bodyF m⟩ : Pag).v ∧ Below w.heap.size w w' := by
  have hlen : l.length ≤ 59 := by rw [← hp.length_eq]; exact hf.len
  have hem := fun W => empty_any 3 d W
  have hsort := fun W base (h : World.ownsRow W base 33 4 v l.length (flatC l)) => (sorted_ok W base v l h (by omega)).mono (R' := fun e w' => ∃ A cap, e = .returned (.slice A m.length cap) ∧ Cels w' A m ∧ Below W.heap.size W w') (fun e w' ⟨A, cap, l', h1, h2, h3, h4, h5⟩ => by
    have e1 : l' = m := perm_sorted (h3.trans hp.symm) h4 hf.sorted
    subst e1
    exact ⟨A, cap, by rw [h1, hp.length_eq], Cels.of_own h2, h5⟩)
  have hput := fun W A cap (hA : Cels W A m) => putAll_any A m.length cap m W rfl (by have := hf.len; omega) hA hf.ok hf.sorted
  unfold putRes at hput
  rw [if_pos hf.room] at hput
  simp only [Pag.v]
  obtain ⟨S, hS⟩ : ∃ S, S = str (bodyF m) := ⟨_, rfl⟩
  obtain ⟨Z, hZ⟩ : ∃ Z, Z = str (zs 240) := ⟨_, rfl⟩
  rw [← hS] at hput ⊢
  rw [← hZ] at hem
  have H0 := Lib.hid h
  clear h hp hf hS hZ
  go_enter Tryz.func146, Tryz.ntmps146
  go_wp2_with fail
  with_reducible refine (hem _).mono ?_
  rintro e w1 ⟨rfl, hb1⟩
  have y1 := hal (o := pagO 3 d 0 Z) (blk_keep (heap_alloc_new w zpO) hb1)
  have z1 := heap_alloc_new w1 (pagO 3 d 0 Z)
  have hw1 : w.heap.size < w1.heap.size := by have := hb1.size; simp at this; omega
  have B1 := Lib.hid (below_al (below_base (below_al (Below.refl _ w) zpO) (by simp) hb1) (pagO 3 d 0 Z))
  have Y1 := Lib.hid y1
  have Z1 := Lib.hid z1
  have H1 := Lib.hid (own_below H0.out B1.out)
  clear hb1 z1 y1 hem
  go_wp2_with fail
  with_reducible refine (hsort _ _ H1.out).mono ?_
  rintro e w2 ⟨A, cap, rfl, hA, hb2⟩
  have Y2 := Lib.hid (blk_keep Y1.out hb2)
  have Z2 := Lib.hid (blk_keep Z1.out hb2)
  have B2 := Lib.hid (below_base B1.out B1.out.size hb2)
  have hp2 := hput _ _ cap hA
  clear hA hb2 hsort hput
  go_wp2_with fail
  with_reducible refine hp2.mono ?_
  rintro e w3 ⟨rfl, hb3⟩
  have y3 := blk_keep Y2.out hb3
  have z3 := blk_keep Z2.out hb3
  have B3 := Lib.hid (below_base B2.out B2.out.size hb3)
  have cz := blk_cell z3
  have fz := blk_free z3
  have lz := lt_of_block z3
  have z4 := heap_setCell_same w3 w1.heap.size 3 _ _ (.string S) z3
  have y4 : (w3.setCell ⟨w1.heap.size, 3, none⟩ (.string S)).heap[w.heap.size]? = some zpO := (heap_setCell_other _ _ _ _ (show w.heap.size ≠ w1.heap.size by omega)).trans y3
  have cz4 := blk_cell z4
  have lz4 := lt_of_block z4
  have cy4 := blk_cell y4
  have fy4 := blk_free y4
  have ly4 := lt_of_block y4
  have B4 := Lib.hid (below_set (g := w1.heap.size) (j := 3) (u := .string S) B3.out (by omega))
  have y5 := set4_same y4 (.int .i64 3) (.int .i64 d) (.int .i64 0) (.string S)
  have cy5 := blk_cell y5
  have B5 := Lib.hid (below_set4 B4.out (Nat.le_refl _) (.int .i64 3) (.int .i64 d) (.int .i64 0) (.string S))
  clear y3 z3 hb3 hp2 z4 y4 y5
  go_wp2_with fail
  refine bodyPost_ret (v := .agg #[.int .i64 3, .int .i64 d, .int .i64 0, .string S]) (by simp [results, Tryz.results146, go_sem, cy5]) rfl ?_
  exact ⟨rfl, B5.out⟩
end Go.Proofs.YtijhamllnnilbaaGreatDoor.Ha
namespace Go.Proofs.YtijhamllnnilbaaGreatDoor.Ha
open Go.RowKit Go.Proofs.YtijhamllnnilbaaGreatDoor.Mem Go.Proofs.YtijhamllnnilbaaGreatDoor.Pg Go.Proofs.YtijhamllnnilbaaGreatDoor.Gr Go.Proofs.YtijhamllnnilbaaGreatDoor.Sp
set_option linter.unusedVariables false
set_option linter.unusedSimpArgs false
theorem count_range (ml : List UInt8) (b : UInt8) : ∀ n, n ≤ ml.length → (ml.take n).count b = ((List.range n).filter (fun m => decide (bt ml m = (b.toNat : Int)))).length
  | 0, _ => by simp
  | n + 1, h => by
    rw [List.take_succ_eq_append_getElem (by omega), List.count_append, count_range ml b n (by omega), List.range_succ, List.filter_append, List.length_append]
    congr 1
    by_cases e : ml[n] = b
    · have h1 := (bt_eq ml n (by omega) b).2 e
      simp [e, h1]
    · have h1 : ¬ bt ml n = (b.toNat : Int) := fun h2 => e ((bt_eq ml n (by omega) b).1 h2)
      simp [e, h1]
theorem filter_two (p q : Nat → Bool) : ∀ l : List Nat, (∀ m, m ∈ l → (p m = !(q m))) → (l.filter p).length + (l.filter q).length = l.length
  | [], _ => rfl
  | a :: l, h => by
    have h1 := h a (List.mem_cons_self ..)
    have h2 := filter_two p q l (fun m hm => h m (List.mem_cons_of_mem _ hm))
    cases e : q a with
    | true => rw [e] at h1; rw [List.filter_cons_of_neg (by simp [h1]), List.filter_cons_of_pos e]; simp; omega
    | false => rw [e] at h1; rw [List.filter_cons_of_pos (by simp [h1]), List.filter_cons_of_neg (by simp [e])]; simp; omega
variable {n D : Nat} {pg : Nat → Pag} {t : Tri} {ml : List UInt8} {X : List Nat}
theorem free_len (H : Hs n pg D t ml X) : (ml.take n).count 2 + 2 + (numsF t.leaves).length + X.length = n := by
  have h8 := H.is.ge
  have h64 := H.is.le
  have hl := H.is.len
  rw [count_range ml 2 n (by omega)]
  have hnd : ([0, 1] ++ (numsF t.leaves ++ X)).Nodup := by
    rw [List.nodup_append, List.nodup_append]
    refine ⟨by simp, ⟨H.tb.nums, H.xn, fun a ha b hb e => H.xd b hb (e ▸ ha)⟩, fun a ha b hb e => ?_⟩
    have h2 : 2 ≤ b := by
      rcases List.mem_append.1 hb with h | h
      · exact (H.tb.rng b h).1
      · exact (H.xr b h).1
    simp at ha
    omega
  have hp : ((List.range n).filter (fun m => decide (bt ml m = ((1 : UInt8).toNat : Int)))).Perm ([0, 1] ++ (numsF t.leaves ++ X)) := by
    refine (List.perm_ext_iff_of_nodup (List.nodup_range.filter _) hnd).2 fun m => ?_
    rw [List.mem_filter, List.mem_range, decide_eq_true_eq]
    show m < n ∧ bt ml m = 1 ↔ _
    simp only [List.mem_append, List.mem_cons, List.not_mem_nil, or_false]
    constructor
    · rintro ⟨h1, h2⟩
      by_cases h3 : 2 ≤ m
      · exact .inr ((H.used m h3 h1).1 h2)
      · exact .inl (by omega)
    · rintro (h | h | h)
      · rcases h with rfl | rfl
        · exact ⟨by omega, H.is.b0⟩
        · exact ⟨by omega, H.is.b1⟩
      · have := H.tb.rng m h
        exact ⟨this.2, (H.used m this.1 this.2).2 (.inl h)⟩
      · have := H.xr m h
        exact ⟨this.2, (H.used m this.1 this.2).2 (.inr h)⟩
  have hlen := hp.length_eq
  have htwo := filter_two (fun m => decide (bt ml m = ((2 : UInt8).toNat : Int))) (fun m => decide (bt ml m = ((1 : UInt8).toNat : Int))) (List.range n) (fun m hm => by
    have h1 := H.is.ok m (List.mem_range.1 hm)
    show decide (bt ml m = 2) = !decide (bt ml m = 1)
    rcases h1 with h | h <;> simp [h])
  rw [List.length_range] at htwo
  simp only [List.length_append, List.length_cons, List.length_nil] at hlen
  omega
theorem take_free (H : Hs n pg D t ml X) : takeI 2 ml < 0 ↔ (numsF t.leaves).length + X.length + 2 = n := by
  have h1 := free_len H
  have hl := H.is.len
  have h64 := H.is.le
  rcases takeI_map H.is with ⟨h2, h3⟩ | ⟨i, h2, h3, h4, h5, _⟩
  · have h6 : (ml.take n).count 2 = 0 := by
      rw [count_range ml 2 n (by omega)]
      rw [List.length_eq_zero_iff, List.filter_eq_nil_iff]
      intro m hm
      have := h3 m (List.mem_range.1 hm)
      show ¬ decide (bt ml m = 2) = true
      simp [this]
    omega
  · have h6 : 0 < (ml.take n).count 2 := by
      rw [count_range ml 2 n (by omega)]
      refine List.length_pos_of_mem (a := i) ?_
      rw [List.mem_filter, List.mem_range]
      exact ⟨h4, by show decide (bt ml i = 2) = true; simp [h5]⟩
    omega
end Go.Proofs.YtijhamllnnilbaaGreatDoor.Ha
namespace Go.Proofs.YtijhamllnnilbaaGreatDoor.Ha
open Go.RowKit Go.Proofs.YtijhamllnnilbaaGreatDoor.Mem Go.Proofs.YtijhamllnnilbaaGreatDoor.Pg Go.Proofs.YtijhamllnnilbaaGreatDoor.Gr Go.Proofs.YtijhamllnnilbaaGreatDoor.Sp
set_option linter.unusedVariables false
set_option linter.unusedSimpArgs false
theorem nodup_sub {α : Type} [BEq α] [LawfulBEq α] : ∀ (l m : List α), l.Nodup → (∀ a, a ∈ l → a ∈ m) → l.length ≤ m.length
  | [], m, _, _ => Nat.zero_le _
  | a :: l, m, hn, h => by
    have h1 := List.nodup_cons.1 hn
    have h2 := nodup_sub l (m.erase a) h1.2 (fun b hb => (List.mem_erase_of_ne (fun e => h1.1 (by rw [← e]; exact hb))).2 (h b (List.mem_cons_of_mem _ hb)))
    have h3 := h a (List.mem_cons_self ..)
    have h4 := List.length_erase_of_mem h3
    have h5 := List.length_pos_of_mem h3
    simp only [List.length_cons]
    omega
theorem szs_pages_ge {z : Nat} : ∀ (ps : List (Nat × List Cel)), (∀ p, p ∈ ps → z ≤ szs p.2) → z * ps.length ≤ szs (cellsP ps)
  | [], _ => by simp
  | p :: ps, h => by
    have h1 := h p (List.mem_cons_self ..)
    have h2 := szs_pages_ge ps (fun q hq => h q (List.mem_cons_of_mem _ hq))
    rw [cellsP_cons, szs_append, List.length_cons, Nat.mul_succ]
    omega
theorem szs_le_all {z : Nat} : ∀ (l : List Cel), (∀ c, c ∈ l → c.sz ≤ z) → szs l ≤ z * l.length
  | [], _ => by simp [szs]
  | c :: l, h => by
    have h1 := h c (List.mem_cons_self ..)
    have h2 := szs_le_all l (fun d hd => h d (List.mem_cons_of_mem _ hd))
    simp only [szs, List.map_cons, List.sum_cons, List.length_cons, Nat.mul_succ] at h2 ⊢
    omega
/-- A small value's cell. -/
def celV (k : List UInt8) : Cel := ⟨k, [118], 0, 0⟩
/-- The keys J were put in without growing. -/
structure Ov (t : Tri) (J : List (List UInt8)) : Prop where
  leaf : ∃ b, t = .leaf b
  look : ∀ k, lookT t k = if k ∈ J then some (celV k) else none
  pgs : (t.at' 0).pgs.length ≤ 8
theorem Ov.new : Ov t00 [] := ⟨⟨_, rfl⟩, fun k => by rw [look00]; simp, by show (1 : Nat) ≤ 8; omega⟩
variable {n D : Nat} {pg : Nat → Pag} {t : Tri} {ml : List UInt8} {X : List Nat} {J : List (List UInt8)}
theorem Ov.at (h : Ov t J) (i : Nat) : t.at' i = t.at' 0 ∧ t.dep i = 0 := by
  obtain ⟨b, rfl⟩ := h.leaf
  exact ⟨rfl, rfl⟩
theorem Ov.nums (h : Ov t J) : (numsF t.leaves).length = (t.at' 0).pgs.length := by
  obtain ⟨b, rfl⟩ := h.leaf
  show (numsF [b]).length = b.pgs.length
  simp [numsF, Lf.nums]
theorem Ov.cells (h : Ov t J) (T : Tb n pg D t) : szs (t.at' 0).cells ≤ 21 * J.length := by
  have hm := t.at_mem 0
  have hc : ∀ c, c ∈ (t.at' 0).cells → c.key ∈ J ∧ c = celV c.key := fun c hc => by
    have h1 := look_mem T hm hc
    rw [h.look] at h1
    by_cases e : c.key ∈ J
    · rw [if_pos e] at h1
      injection h1 with h1
      exact ⟨e, h1.symm⟩
    · rw [if_neg e] at h1; cases h1
  have h1 : (t.at' 0).cells.length ≤ J.length := by
    have := nodup_sub ((t.at' 0).cells.map Cel.key) J (T.keys _ hm) (fun a ha => by
      obtain ⟨c, h1, rfl⟩ := List.mem_map.1 ha
      exact (hc c h1).1)
    rwa [List.length_map] at this
  have h2 := szs_le_all (z := 21) (t.at' 0).cells (fun c h3 => by
    have h4 := (cel_ok T hm h3).key.2
    rw [(hc c h3).2]
    show 4 + c.key.length + 1 ≤ 21
    omega)
  exact Nat.le_trans h2 (Nat.mul_le_mul_left _ h1)
theorem updB_leaf (b : Lf) (h : Nat) (ps : List (Nat × List Cel)) : updB (.leaf b) h ps = .leaf (lfOf ps) := rfl
theorem grown_no {x : Cel} {t t1 : Tri} (h : Grown x false t t1) : t1 = t := by
  cases h with
  | refl => rfl
  | step hg => cases hg
theorem nofit_pages {x : Cel} {z : Nat} (hx : x.sz ≤ z) {ps : List (Nat × List Cel)} (hno : ¬ has x.key (cellsP ps)) (h : NoFit x ps) : (240 - z) * ps.length ≤ szs (cellsP ps) := by
  refine szs_pages_ge ps fun p hp => ?_
  obtain ⟨i, hi⟩ := List.mem_iff_getElem?.1 hp
  have h1 := h i p.1 p.2 hi
  rw [szs_ins_new (fun ⟨c, h2, h3⟩ => hno ⟨c, List.mem_flatMap.2 ⟨p, hp, h2⟩, h3⟩)] at h1
  omega
theorem Ov.grown (h : Ov t J) (H : Hs n pg D t ml X) (hJ : J.length ≤ 80) (k : List UInt8) (hk : keyOk k) (hn : NoFit (celV k) ((cutT k t).at' (sumF k)).pgs) : (t.at' 0).pgs.length ≤ 7 := by
  have h1 := nofit_pages (x := celV k) (z := 21) (by have := hk.2; show 4 + k.length + 1 ≤ 21; omega) (cutT_has k t) hn
  rw [(cutT_at k t).1, (h.at _).1, cutP_cells, cutP_len] at h1
  have h2 := szs_cut_le k (cellsP (t.at' 0).pgs)
  have h3 := h.cells H.tb
  rw [Lf.cells_eq] at h3
  omega
theorem Ov.step (h : Ov t J) (H : Hs n pg D t ml X) (hJ : J.length ≤ 80) (k : List UInt8) (hk : keyOk k) {t' : Tri} (hs : SetOk (celV k) false t t') (hl : ∀ k', lookT t' k' = if k' = k then some (celV k) else lookT t k') :
    Ov t' (k :: J) ∧ ((numsF t'.leaves).length = (numsF t.leaves).length ∨ (numsF t'.leaves).length = (numsF t.leaves).length + 1) := by
  have hlook : ∀ k', lookT t' k' = if k' ∈ k :: J then some (celV k') else none := fun k' => by
    rw [hl k', h.look k']
    by_cases e : k' = k
    · subst e; simp
    · simp [e]
  obtain ⟨b, rfl⟩ := h.leaf
  have hb8 : b.pgs.length ≤ 8 := h.pgs
  have fin : ∀ ps : List (Nat × List Cel), ps ≠ [] → ps.length ≤ 8 → (∀ k', lookT (.leaf (lfOf ps)) k' = if k' ∈ k :: J then some (celV k') else none) → Ov (.leaf (lfOf ps)) (k :: J) ∧ (numsF (Tri.leaf (lfOf ps)).leaves).length = ps.length := fun ps h1 h2 h3 => by
    have e : (lfOf ps).pgs = ps := lfOf_pgs h1
    refine ⟨⟨⟨_, rfl⟩, h3, by show (lfOf ps).pgs.length ≤ 8; rw [e]; exact h2⟩, ?_⟩
    show (numsF [lfOf ps]).length = _
    simp [numsF, Lf.nums, e]
  have hbn : (numsF (Tri.leaf b).leaves).length = b.pgs.length := by
    show (numsF [b]).length = _
    simp [numsF, Lf.nums]
  have hpos : 0 < b.pgs.length := Nat.succ_pos _
  rcases hs with ⟨j, m, cs, _, _, _, rfl⟩ | ⟨t1, hg, ⟨j, m, cs, _, _, _, rfl⟩ | ⟨hn, _, i, _, rfl⟩⟩
  · rw [updB_leaf] at hlook ⊢
    have hp : ((Tri.leaf b).at' (sumF (celV k).key)).pgs = b.pgs := rfl
    rw [hp] at hlook ⊢
    have h1 := fin (b.pgs.set j (m, ins (celV k) cs)) (List.ne_nil_of_length_pos (by rw [List.length_set]; exact hpos)) (by rw [List.length_set]; exact hb8) hlook
    refine ⟨h1.1, .inl ?_⟩
    rw [h1.2, hbn, List.length_set]
  · have e1 := grown_no hg
    subst e1
    have hc : cutT (celV k).key (.leaf b) = .leaf (lfOf (cutP k b.pgs)) := rfl
    rw [hc, updB_leaf] at hlook ⊢
    have hlen : ((Tri.leaf (lfOf (cutP k b.pgs))).at' (sumF (celV k).key)).pgs.length = b.pgs.length := by
      show (lfOf (cutP k b.pgs)).pgs.length = _
      rw [lfOf_pgs (List.ne_nil_of_length_pos (by rw [cutP_len]; exact hpos)), cutP_len]
    have h1 := fin (((Tri.leaf (lfOf (cutP k b.pgs))).at' (sumF (celV k).key)).pgs.set j (m, ins (celV k) cs)) (List.ne_nil_of_length_pos (by rw [List.length_set, hlen]; exact hpos)) (by rw [List.length_set, hlen]; exact hb8) hlook
    refine ⟨h1.1, .inl ?_⟩
    rw [h1.2, hbn, List.length_set, hlen]
  · have e1 := grown_no hg
    subst e1
    have h7 := h.grown H hJ k hk hn
    have h7' : b.pgs.length ≤ 7 := h7
    have hc : cutT (celV k).key (.leaf b) = .leaf (lfOf (cutP k b.pgs)) := rfl
    rw [hc, updB_leaf] at hlook ⊢
    have hlen : ((Tri.leaf (lfOf (cutP k b.pgs))).at' (sumF (celV k).key)).pgs.length = b.pgs.length := by
      show (lfOf (cutP k b.pgs)).pgs.length = _
      rw [lfOf_pgs (List.ne_nil_of_length_pos (by rw [cutP_len]; exact hpos)), cutP_len]
    have h1 := fin (((Tri.leaf (lfOf (cutP k b.pgs))).at' (sumF (celV k).key)).pgs ++ [(i, [celV k])]) (by simp) (by rw [List.length_append, hlen]; simp; omega) hlook
    refine ⟨h1.1, .inr ?_⟩
    rw [h1.2, hbn, List.length_append, hlen]
    rfl
end Go.Proofs.YtijhamllnnilbaaGreatDoor.Ha
