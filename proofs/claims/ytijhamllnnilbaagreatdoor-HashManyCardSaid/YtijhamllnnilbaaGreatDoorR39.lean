/- Lemmas of the claim, in their order:
- The contract of bucket.Split.
- How many pages are free. No program in sight.
- Keys put in without growing: the table's pages. No program in sight.
- A map of texts: what lies in it is of a list; a range over it.
- Maps from texts: a set of them, texts by them; a range over the latter.
-/
import Derived.Test.YtijhamllnnilbaaGreatDoorR36
import Derived.Test.YtijhamllnnilbaaGreatDoorR29
import Derived.Test.YtijhamllnnilbaaGreatDoorR33
import Derived.Maps.RangeWalk
import Derived.StringKeys
set_option linter.unusedVariables false
set_option linter.unusedSimpArgs false
namespace Go.Proofs.YtijhamllnnilbaaGreatDoor.Ha
open Go.RowKit Go.Proofs.YtijhamllnnilbaaGreatDoor.Mem Go.Proofs.YtijhamllnnilbaaGreatDoor.Pg Go.Proofs.YtijhamllnnilbaaGreatDoor.Kp Go.Proofs.YtijhamllnnilbaaGreatDoor.Sp Go.Proofs.YtijhamllnnilbaaGreatDoor.Gr
set_option linter.unusedSimpArgs false
set_option linter.unusedVariables false
structure HvS (w wr : World) (l : List Cel) (d j : Nat) (v0 v1 : Value) : Prop where
 blk : wr.heap[w.heap.size]? = some (.cells #[v0, v1] 292 (0, 0))
 r0 : wr.ownsRow (w.heap.size + 1) 33 4 v0 ((l.take j).filter (bitF d)).length (flatC ((l.take j).filter (bitF d)))
 r1 : wr.ownsRow (w.heap.size + 1) 33 4 v1 ((l.take j).filter (fun c => !bitF d c)).length (flatC ((l.take j).filter (fun c => !bitF d c)))
 ne : ∀ g, v0.ownBlock = some g → v1.ownBlock ≠ some g
 bel : Below w.heap.size w wr
theorem HvS.below {w wr wq : World} {l : List Cel} {d j : Nat} {v0 v1 : Value} (h : HvS w wr l d j v0 v1) (k : Below wr.heap.size wr wq) : HvS w wq l d j v0 v1 :=
 ⟨blk_keep h.blk k, own_below h.r0 k, own_below h.r1 k, h.ne, below_base h.bel h.bel.size k⟩
theorem filt_step {l : List Cel} {j : Nat} (hj : j < l.length) (p : Cel → Bool) : (l.take (j + 1)).filter p = (l.take j).filter p ++ (if p l[j] then [l[j]] else []) := by
 rw [List.take_succ_eq_append_getElem hj, List.filter_append]
 congr 1
 by_cases h : p l[j] = true
 · rw [if_pos h, List.filter_cons_of_pos h]; rfl
 · rw [if_neg h, List.filter_cons_of_neg h]; rfl
theorem HvS.next {w wr : World} {l : List Cel} {d j : Nat} {v0 v1 : Value} (h : HvS w wr l d j v0 v1) (hj : j < l.length) (bit : Nat) (hb : bit = if bitF d l[j] then 0 else 1) (hl : l.length ≤ 1000) :
 Calls Tryz.prog 198 #[.pointer (some ⟨w.heap.size, 0, none⟩), .int .i64 bit, l[j].v] wr fun e w' => e = .returned (.tuple #[]) ∧ ∃ v0' v1', HvS w w' l d (j + 1) v0' v1' := by
 have hbs : w.heap.size + 1 ≤ wr.heap.size := lt_of_block h.blk
 have hle : ∀ p : Cel → Bool, ((l.take j).filter p).length ≤ 10000 := fun p => by
  have h1 := List.length_filter_le p (l.take j)
  rw [List.length_take] at h1
  omega
 by_cases hp : bitF d l[j] = true
 · rw [if_pos hp] at hb
   subst hb
   refine (hadd0 wr (w.heap.size + 1) w.heap.size v0 v1 _ l[j] h.blk h.r0 (Nat.lt_succ_self _) hbs (hle _)).mono ?_
   rintro e w' ⟨rfl, v', h1, h2, h3, h4⟩
   refine ⟨rfl, v', v1, h1, ?_, ?_, fun g hg hg2 => ?_, ?_⟩
   · rw [filt_step hj, if_pos hp]; exact h2
   · rw [filt_step hj, if_neg (by simp [hp]), List.append_nil]
     exact h3.row h.r1 (fun g hg hs => by
      rcases hs with hs | hs
      · have := own_base h.r1 g hg; omega
      · exact h.ne g hs hg)
   · rcases h4 g hg with h5 | h5
     · exact h.ne g h5 hg2
     · have := own_lt h.r1 g hg2; omega
   · exact h.bel.trans (h3.to_below h.bel.size (fun i hi => by
      rcases hi with hi | hi
      · omega
      · have := own_base h.r0 i hi; omega))
 · rw [if_neg hp] at hb
   subst hb
   refine (hadd1 wr (w.heap.size + 1) w.heap.size v0 v1 _ l[j] h.blk h.r1 (Nat.lt_succ_self _) hbs (hle _)).mono ?_
   rintro e w' ⟨rfl, v', h1, h2, h3, h4⟩
   refine ⟨rfl, v0, v', h1, ?_, ?_, fun g hg hg2 => ?_, ?_⟩
   · rw [filt_step hj, if_neg hp, List.append_nil]
     exact h3.row h.r0 (fun g hg hs => by
      rcases hs with hs | hs
      · have := own_base h.r0 g hg; omega
      · exact h.ne g hg hs)
   · rw [filt_step hj, if_pos (by simp [hp])]; exact h2
   · rcases h4 g hg2 with h5 | h5
     · exact h.ne g hg h5
     · have := own_lt h.r0 g hg; omega
   · exact h.bel.trans (h3.to_below h.bel.size (fun i hi => by
      rcases hi with hi | hi
      · omega
      · have := own_base h.r1 i hi; omega))
theorem bit_u32 (a d : Nat) (ha : a < 4294967296) (hd : d ≤ 31) : wrap64 (bits .and .u32 ((a : Int) / 2 ^ d) 1) = ((a / 2 ^ d % 2 : Nat) : Int) := by
 have h1 := and_u32 (a / 2 ^ d) 1 (Nat.lt_of_le_of_lt (Nat.div_le_self _ _) ha) (by omega)
 have e : (a : Int) / 2 ^ d = ((a / 2 ^ d : Nat) : Int) := by simp
 rw [e]
 have h2 : bits .and .u32 (((a / 2 ^ d : Nat)) : Int) 1 = ((a / 2 ^ d % 2 : Nat) : Int) := by simpa using h1
 rw [h2]
 exact IntWalk.wrap64_in _ (by omega)
set_option maxRecDepth 100000 in
set_option maxHeartbeats 4000000 in
theorem bsplit_ok (w : World) (d n cap : Nat) (A : Option Addr) (l : List Cel) (hA : Cels w A l) (hn : n = l.length) (hl : l.length ≤ 1000) (hd : d ≤ 31) (hk : ∀ c, c ∈ l → c.key.length ≤ 1000) :
 Calls Tryz.prog 143 #[.int .i64 d, .slice A n cap] w fun e w' => ∃ A0 c0 A1 c1, e = .returned (.tuple #[.slice A0 (l.filter (bitF d)).length c0, .slice A1 (l.filter (fun c => !bitF d c)).length c1]) ∧
  w'.ownsRow w.heap.size 33 4 (.slice A0 (l.filter (bitF d)).length c0) (l.filter (bitF d)).length (flatC (l.filter (bitF d))) ∧
  w'.ownsRow w.heap.size 33 4 (.slice A1 (l.filter (fun c => !bitF d c)).length c1) (l.filter (fun c => !bitF d c)).length (flatC (l.filter (fun c => !bitF d c))) ∧ Below w.heap.size w w' := by
 have H0 : Hid (HvS w (w.alloc (hvO (.slice none 0 0) (.slice none 0 0))) l d 0 (.slice none 0 0) (.slice none 0 0)) :=
  Lib.hid ⟨heap_alloc_new w _, ⟨rfl, .inl ⟨rfl, rfl⟩⟩, ⟨rfl, .inl ⟨rfl, rfl⟩⟩, fun g hg => by simp [Value.ownBlock] at hg, below_al (Below.refl _ w) _⟩
 have HA := Lib.hid hA
 have HK := Lib.hid hk
 have HN := Lib.hid hn
 have hn1 : n ≤ l.length := by omega
 have dd : decide ((d : Int) ≤ 31) = true := by simp; omega
 have dI : (d : Int) ≤ 31 := by omega
 clear hA hk hn
 go_enter Tryz.func143, Tryz.ntmps143
 go_wp2_with fail
 go_loopw [14] (fun v wr => ∃ (j : Nat) (v0 v1 : Value), v = .int .i64 (j : Nat) ∧ j ≤ n ∧ Hid (HvS w wr l d j v0 v1)) (fun v _ => n - (intOf v).toNat)
 case atStart => exact ⟨0, _, _, rfl, Nat.zero_le _, H0⟩
 case round =>
  clear H0
  obtain ⟨j, v0, v1, rfl, hj, H1⟩ := hrel
  by_cases hlt : j < n
  · have hjl : j < l.length := by omega
    have hsum := fun W => sum_any l[j].key W (by have := HK.out _ (List.getElem_mem hjl); omega)
    obtain ⟨b, off, rfl, hbl, hcell⟩ := HA.out (by have := HN.out; omega)
    have hc := fun r u (hu : (l[j].cells)[r]? = some u) => (H1.out.bel.cell (p := ⟨b, off + j * 4 + r, none⟩) hbl).trans (hcell j l[j] (List.getElem?_eq_getElem hjl) r u hu)
    have c0 := hc 0 _ rfl
    have c1 := hc 1 _ rfl
    have c2 := hc 2 _ rfl
    have c3 := hc 3 _ rfl
    rw [Nat.add_zero] at c0
    have hbw : b < wr.heap.size := Nat.lt_of_lt_of_le hbl H1.out.bel.size
    have hlt32 := sumF_lt l[j].key
    have hbit := bit_u32 (sumF l[j].key) d hlt32 hd
    have hnext := fun W (HW : HvS w W l d j v0 v1) (bit : Nat) hb => HW.next hjl bit hb hl
    obtain ⟨bt1, hbt1⟩ : ∃ b : Nat, b = sumF l[j].key / 2 ^ d % 2 := ⟨_, rfl⟩
    have hbt2 : bt1 = if bitF d l[j] then 0 else 1 := by
     rw [hbt1]
     unfold bitF
     rcases Nat.mod_two_eq_zero_or_one (sumF l[j].key / 2 ^ d) with h | h <;> simp [h]
    have hnx := fun W (HW : HvS w W l d j v0 v1) => hnext W HW bt1 hbt2
    rw [← hbt1] at hbit
    simp only [Cel.v] at hnx
    generalize sumF l[j].key = sf at *
    obtain ⟨U1, hU1⟩ : ∃ U, U = str l[j].key := ⟨_, rfl⟩
    obtain ⟨U2, hU2⟩ : ∃ U, U = str l[j].val := ⟨_, rfl⟩
    obtain ⟨xb, hxb⟩ : ∃ b : Int, b = l[j].blob := ⟨_, rfl⟩
    obtain ⟨xz, hxz⟩ : ∃ b : Int, b = l[j].size := ⟨_, rfl⟩
    rw [← hU1] at hsum c0 hnx
    rw [← hU2] at c1 hnx
    rw [← hxb] at c2 hnx
    rw [← hxz] at c3 hnx
    have H5 := Lib.hid (H1.out.below (below_al (Below.refl _ wr) (celO U1 U2 xb xz)))
    have zc := heap_alloc_new wr (celO U1 U2 xb xz)
    have cz := blk_cell zc
    have lz := lt_of_block zc
    have Z5 := Lib.hid zc
    have hjI : (j : Int) < (n : Int) := by omega
    have i1 : IntKind.i64.wrap ((j : Int) + 1) = (j : Int) + 1 := IntWalk.i64_in _ (by omega)
    have HBT := Lib.hid hbit
    clear hU1 hU2 hxb hxz hc hcell hnext hbt1 hbt2 zc hbit
    go_wp2_with fail
    with_reducible refine (hsum _).mono ?_
    rintro e w6 ⟨rfl, rfl⟩
    go_wp2_with fail
    rw [HBT.out]
    with_reducible refine (hnx _ H5.out).mono ?_
    rintro e w7 ⟨rfl, v0', v1', h7⟩
    have H7 := Lib.hid h7
    clear h7 hnx H5 hsum c0 c1 c2 c3 cz lz Z5 HBT
    go_wp2_with fail
    go_roundw
    case rel => exact ⟨j + 1, v0', v1', by go_num, by omega, H7⟩
    case measure => clear i1; simp [intOf]; omega
  · obtain rfl : j = n := by omega
    have hb := H1.out
    have r0 := hb.r0
    have r1 := hb.r1
    rw [HN.out, List.take_length] at r0 r1
    obtain ⟨A0, c0, h0⟩ := own_slice r0
    obtain ⟨A1, c1, h1⟩ := own_slice r1
    subst h0 h1
    have ch := blk_cell hb.blk
    have lh := lt_of_block hb.blk
    have HF := Lib.hid (And.intro (row_mono r0 (Nat.le_succ _)) (And.intro (row_mono r1 (Nat.le_succ _)) hb.bel))
    clear r0 r1 hb H1
    go_wp2_with fail
    go_region
    go_wp2_with fail
    go_ret2
    exact ⟨A0, c0, A1, c1, rfl, HF.out.1, HF.out.2.1, below_dr HF.out.2.2⟩
end Go.Proofs.YtijhamllnnilbaaGreatDoor.Ha
namespace Go.Proofs.YtijhamllnnilbaaGreatDoor.Ha
open Go.RowKit Go.Proofs.YtijhamllnnilbaaGreatDoor.Mem Go.Proofs.YtijhamllnnilbaaGreatDoor.Pg Go.Proofs.YtijhamllnnilbaaGreatDoor.Gr Go.Proofs.YtijhamllnnilbaaGreatDoor.Sp
set_option linter.unusedVariables false
set_option linter.unusedSimpArgs false
theorem count_range (ml : List UInt8) (b : UInt8) : ∀ n, n ≤ ml.length → (ml.take n).count b = ((List.range n).filter (fun m => decide (bt ml m = (b.toNat : Int)))).length
 | 0, _ => by simp
 | n + 1, h => by
  rw [List.take_succ_eq_append_getElem (by omega), List.count_append, count_range ml b n (by omega), List.range_succ, List.filter_append, List.length_append]
  congr 1
  by_cases e : ml[n] = b
  · have h1 := (bt_eq ml n (by omega) b).2 e
    simp [e, h1]
  · have h1 : ¬ bt ml n = (b.toNat : Int) := fun h2 => e ((bt_eq ml n (by omega) b).1 h2)
    simp [e, h1]
theorem filter_two (p q : Nat → Bool) : ∀ l : List Nat, (∀ m, m ∈ l → (p m = !(q m))) → (l.filter p).length + (l.filter q).length = l.length
 | [], _ => rfl
 | a :: l, h => by
  have h1 := h a (List.mem_cons_self ..)
  have h2 := filter_two p q l (fun m hm => h m (List.mem_cons_of_mem _ hm))
  cases e : q a with
  | true => rw [e] at h1; rw [List.filter_cons_of_neg (by simp [h1]), List.filter_cons_of_pos e]; simp; omega
  | false => rw [e] at h1; rw [List.filter_cons_of_pos (by simp [h1]), List.filter_cons_of_neg (by simp [e])]; simp; omega
variable {n D : Nat} {pg : Nat → Pag} {t : Tri} {ml : List UInt8} {X : List Nat}
theorem free_len (H : Hs n pg D t ml X) : (ml.take n).count 2 + 2 + (numsF t.leaves).length + X.length = n := by
 have h8 := H.is.ge
 have h64 := H.is.le
 have hl := H.is.len
 rw [count_range ml 2 n (by omega)]
 have hnd : ([0, 1] ++ (numsF t.leaves ++ X)).Nodup := by
  rw [List.nodup_append, List.nodup_append]
  refine ⟨by simp, ⟨H.tb.nums, H.xn, fun a ha b hb e => H.xd b hb (e ▸ ha)⟩, fun a ha b hb e => ?_⟩
  have h2 : 2 ≤ b := by
   rcases List.mem_append.1 hb with h | h
   · exact (H.tb.rng b h).1
   · exact (H.xr b h).1
  simp at ha
  omega
 have hp : ((List.range n).filter (fun m => decide (bt ml m = ((1 : UInt8).toNat : Int)))).Perm ([0, 1] ++ (numsF t.leaves ++ X)) := by
  refine (List.perm_ext_iff_of_nodup (List.nodup_range.filter _) hnd).2 fun m => ?_
  rw [List.mem_filter, List.mem_range, decide_eq_true_eq]
  show m < n ∧ bt ml m = 1 ↔ _
  simp only [List.mem_append, List.mem_cons, List.not_mem_nil, or_false]
  constructor
  · rintro ⟨h1, h2⟩
    by_cases h3 : 2 ≤ m
    · exact .inr ((H.used m h3 h1).1 h2)
    · exact .inl (by omega)
  · rintro (h | h | h)
    · rcases h with rfl | rfl
      · exact ⟨by omega, H.is.b0⟩
      · exact ⟨by omega, H.is.b1⟩
    · have := H.tb.rng m h
      exact ⟨this.2, (H.used m this.1 this.2).2 (.inl h)⟩
    · have := H.xr m h
      exact ⟨this.2, (H.used m this.1 this.2).2 (.inr h)⟩
 have hlen := hp.length_eq
 have htwo := filter_two (fun m => decide (bt ml m = ((2 : UInt8).toNat : Int))) (fun m => decide (bt ml m = ((1 : UInt8).toNat : Int))) (List.range n) (fun m hm => by
  have h1 := H.is.ok m (List.mem_range.1 hm)
  show decide (bt ml m = 2) = !decide (bt ml m = 1)
  rcases h1 with h | h <;> simp [h])
 rw [List.length_range] at htwo
 simp only [List.length_append, List.length_cons, List.length_nil] at hlen
 omega
theorem take_free (H : Hs n pg D t ml X) : takeI 2 ml < 0 ↔ (numsF t.leaves).length + X.length + 2 = n := by
 have h1 := free_len H
 have hl := H.is.len
 have h64 := H.is.le
 rcases takeI_map H.is with ⟨h2, h3⟩ | ⟨i, h2, h3, h4, h5, _⟩
 · have h6 : (ml.take n).count 2 = 0 := by
    rw [count_range ml 2 n (by omega)]
    rw [List.length_eq_zero_iff, List.filter_eq_nil_iff]
    intro m hm
    have := h3 m (List.mem_range.1 hm)
    show ¬ decide (bt ml m = 2) = true
    simp [this]
   omega
 · have h6 : 0 < (ml.take n).count 2 := by
    rw [count_range ml 2 n (by omega)]
    refine List.length_pos_of_mem (a := i) ?_
    rw [List.mem_filter, List.mem_range]
    exact ⟨h4, by show decide (bt ml i = 2) = true; simp [h5]⟩
   omega
end Go.Proofs.YtijhamllnnilbaaGreatDoor.Ha
namespace Go.Proofs.YtijhamllnnilbaaGreatDoor.Ha
open Go.RowKit Go.Proofs.YtijhamllnnilbaaGreatDoor.Mem Go.Proofs.YtijhamllnnilbaaGreatDoor.Pg Go.Proofs.YtijhamllnnilbaaGreatDoor.Gr Go.Proofs.YtijhamllnnilbaaGreatDoor.Sp
set_option linter.unusedVariables false
set_option linter.unusedSimpArgs false
def celV (k : List UInt8) : Cel := ⟨k, [118], 0, 0⟩
variable {n D : Nat} {pg : Nat → Pag} {t : Tri} {ml : List UInt8} {X : List Nat} {J : List (List UInt8)}
end Go.Proofs.YtijhamllnnilbaaGreatDoor.Ha
namespace Go.Proofs.YtijhamllnnilbaaGreatDoor.Ha
open Go.RowKit Go.Proofs.YtijhamllnnilbaaGreatDoor.Mem Go.Proofs.YtijhamllnnilbaaGreatDoor.Pg Go.Proofs.YtijhamllnnilbaaGreatDoor.Kp Go.Proofs.YtijhamllnnilbaaGreatDoor.Sp Go.Proofs.YtijhamllnnilbaaGreatDoor.Gr
set_option linter.unusedVariables false
set_option linter.unusedSimpArgs false
theorem skeyed : Maps.Keyed Tryz.prog 9 := Maps.string_keyed Tryz.underlying9
section
variable (w : World) {ops : Array Oper} {rest : List Oper} {o : Oper} {a : Act} {Q : Exit → Act → World → Prop}
end
end Go.Proofs.YtijhamllnnilbaaGreatDoor.Ha
namespace Go.Proofs.YtijhamllnnilbaaGreatDoor.Ha
open Go.RowKit Go.Proofs.YtijhamllnnilbaaGreatDoor.Mem Go.Proofs.YtijhamllnnilbaaGreatDoor.Pg Go.Proofs.YtijhamllnnilbaaGreatDoor.Kp Go.Proofs.YtijhamllnnilbaaGreatDoor.Sp Go.Proofs.YtijhamllnnilbaaGreatDoor.Gr
set_option linter.unusedVariables false
set_option linter.unusedSimpArgs false
abbrev tl (k : List UInt8) : Lit := .string k
set_option maxRecDepth 10000
theorem tl_ne {i j : List UInt8} (h : i ≠ j) : tl i ≠ tl j := fun e => h (by simpa only [tl, Lit.string.injEq] using e)
theorem tkey {k : List UInt8} (hk : (str k).size ≤ maxLen) : keyOf Tryz.prog 9 (.string (str k)) = some (tl k) := by
 have hkey := WideMaps.keyOf_string_mk Tryz.underlying9 hk
 rw [show (str k).data.toList = k from by simp] at hkey
 exact hkey
end Go.Proofs.YtijhamllnnilbaaGreatDoor.Ha
