/- Lemmas of the claim, in their order:
- The contracts of a group's Put, Bytes.
- Plain mathematics of chapter 9: what a map is, byte by byte. No program in sight.
- The contracts of a group's Take, Give, Free.
- The contract of the reference's Zeros.
- The contract of the laws' New: a store of n pages.
- A new store's pages; what the laws' New gives (for seats without Patches).
- A group over a store of n pages, by the pages that it shows.
- The plain laws of a value in pages (as blob/XBlobBack, without its walk).
- A slice of texts, opened.
-/
import Derived.Test.YtijhamllnnilbaaGreatDoorR15
import Derived.Test.YtijhamllnnilbaaGreatDoorR17
import Derived.Test.YtijhamllnnilbaaGreatDoorR16
import Derived.Test.YtijhamllnnilbaaGreatDoorR01
import Derived.Laws.BytesArg
import Derived.OwnWalk
import Derived.Deep.RegionLaw
import Derived.Deep.RegionLawGrows
import Derived.Test.YtijhamllnnilbaaGreatDoorR19
import Derived.Test.YtijhamllnnilbaaGreatDoorChecked
import Derived.Deep.Strs
import Derived.ProofKit
set_option linter.unusedVariables false
set_option linter.unusedSimpArgs false
namespace Go.Proofs.YtijhamllnnilbaaGreatDoor.Gr
open Go.RowKit Go.Proofs.YtijhamllnnilbaaGreatDoor.Mem Go.Proofs.YtijhamllnnilbaaGreatDoor.Pg Go.Proofs.YtijhamllnnilbaaGreatDoor.Kp
set_option linter.unusedSimpArgs false
set_option linter.unusedVariables false

theorem Grp.ne {w : World} {gb mb sb : Nat} {M : Int → Option (List UInt8)} {tk : Int} (h : Grp w gb mb sb M tk) : gb ≠ mb := fun e => by
 have h1 := h.grp
 obtain ⟨D, ks, ⟨es, clock, hb, _⟩, _⟩ := h.map.ex
 rw [e, hb] at h1
 cases h1

set_option maxRecDepth 100000 in
set_option maxHeartbeats 2000000 in
theorem gput_ok (w : World) (gb mb sb : Nat) (M : Int → Option (List UInt8)) (tk i : Int) (p : Pag) (ht : Tab w) (hg : Grp w gb mb sb M tk) (hp : p.ok) (h0 : 0 ≤ i) (h1 : i < 64) :
 Calls Tryz.prog 75 #[.pointer (some ⟨gb, 0, none⟩), .int .i64 i, p.v] w fun e w' => e = .returned (.int .i64 0) ∧ Grp w' gb mb sb (upd M i p.bytes) tk ∧ Keep (fun j => j = mb) w w' := by
 have hput := fun W (k : Tab W) => put_yes p W k hp
 have hlen := Pag.bytes_len hp
 have d0 : decide (i < 0) = false := by simp; omega
 have d1 : decide (64 ≤ i) = false := by simp; omega
 obtain ⟨b, hb⟩ : ∃ b, b = p.bytes := ⟨_, rfl⟩
 rw [← hb] at hput hlen ⊢
 obtain ⟨k, d, x, l⟩ := p
 simp only [Pag.v] at hput ⊢
 obtain ⟨T, hT⟩ : ∃ T, T = str l := ⟨_, rfl⟩
 obtain ⟨S, hS⟩ : ∃ S, S = str b := ⟨_, rfl⟩
 rw [← hT, ← hS] at hput
 rw [← hT]
 have HT := Lib.hid (ht.alloc (.cells #[.int .i64 k, .int .i64 d, .int .i64 x, .string T] 113))
 have hb1 := below_al (Below.refl _ w) (.cells #[.int .i64 k, .int .i64 d, .int .i64 x, .string T] 113)
 have k5 := heap_alloc_new w (.cells #[.int .i64 k, .int .i64 d, .int .i64 x, .string T] 113)
 have c5 := blk_cell k5
 have Hg1 := Lib.hid (hg.below hb1)
 have HB := Lib.hid hb1
 have Hi := Lib.hid (And.intro h0 h1)
 have HS := Lib.hid hS
 have Hl := Lib.hid hlen
 have Hne := Lib.hid hg.ne
 clear ht hg hp h0 h1 hb hT hS hb1 k5 hlen
 go_enter Tryz.func75, Tryz.ntmps75
 go_wp2_with fail
 with_reducible refine (hput _ HT.out).mono ?_
 rintro e w2 ⟨rfl, hb2⟩
 have hg2 := Hg1.out.below hb2
 have cg := blk_cell hg2.grp
 have zg := hg2.lt1
 obtain ⟨w3, hrun, hmap, hgr⟩ := hg2.map.put i Hi.out.1 Hi.out.2 b (by rw [Hl.out]; omega)
 rw [← HS.out] at hrun
 have hg3 : Grp w3 gb mb sb (upd M i b) tk := ⟨(hgr.block _ zg (fun e => Hne.out (Option.some.inj e))).trans hg2.grp, hmap⟩
 have hk3 : Keep (fun j => j = mb) w w3 := (Keep.of_below (below_tr HB.out hb2)).trans (Keep.grown hgr (fun j e => (Option.some.inj e).symm))
 have Hg3 := Lib.hid hg3
 have Hk3 := Lib.hid hk3
 clear hb2 hg2 hmap hgr hg3 hk3 c5
 go_wp2_with fail
 go_ret
 exact ⟨rfl, Hg3.out, Hk3.out⟩

set_option maxRecDepth 100000 in
theorem gbytes_any (w : World) (gb mb sb : Nat) (M : Int → Option (List UInt8)) (tk i : Int) (hi : (Lit.int .i64 i).wf = true) (hg : Grp w gb mb sb M tk) :
 Calls Tryz.prog 71 #[.pointer (some ⟨gb, 0, none⟩), .int .i64 i] w fun e w' => e = .returned (.tuple #[.string (str ((M i).getD [])), .bool (M i).isSome]) ∧ w' = w := by
 have cg := blk_cell hg.grp
 have zg := hg.lt1
 have hrun := hg.map.look i hi
 obtain ⟨S, hS⟩ : ∃ S, S = str ((M i).getD []) := ⟨_, rfl⟩
 rw [← hS] at hrun ⊢
 generalize (M i).isSome = y at *
 clear hg hS
 go_enter Tryz.func71, Tryz.ntmps71
 go_wp2_with fail
 go_ret2
 exact ⟨rfl, rfl⟩
end Go.Proofs.YtijhamllnnilbaaGreatDoor.Gr
namespace Go.Proofs.YtijhamllnnilbaaGreatDoor.Sp
open Go.RowKit Go.Proofs.YtijhamllnnilbaaGreatDoor.Mem Go.Proofs.YtijhamllnnilbaaGreatDoor.Pg

theorem bt_get (l : List UInt8) (i : Nat) (h : i < l.length) : bt l i = (l[i].toNat : Int) := (bt_eq l i h l[i]).2 rfl
theorem bt_set (l : List UInt8) (i : Nat) (b : UInt8) (h : i < l.length) (j : Nat) : bt (l.set i b) j = if i = j then (b.toNat : Int) else bt l j := by
 unfold bt
 rw [List.getD_eq_getElem?_getD, List.getD_eq_getElem?_getD, List.getElem?_set]
 split
 · subst_vars; simp
 · rfl
theorem bt_take (l : List UInt8) (n i : Nat) (h : i < n) : bt (l.take n) i = bt l i := by
 unfold bt
 rw [List.getD_eq_getElem?_getD, List.getD_eq_getElem?_getD, List.getElem?_take_of_lt h]
structure IsMap (n : Nat) (l : List UInt8) : Prop where
 len : l.length = 240
 ge : 8 ≤ n
 le : n ≤ 64
 ok : ∀ i, i < n → bt l i = 1 ∨ bt l i = 2
 past : ∀ i, n ≤ i → bt l i = 0
 b0 : bt l 0 = 1
 b1 : bt l 1 = 1

theorem pagesF_map {n : Nat} {l : List UInt8} (h : IsMap n l) : pagesF 2 l = n := by
 have ht : Lib.trimRightB l 0 = l.take n := by
  apply Lib.trimRightB_take l 0 n (by have := h.len; have := h.le; omega)
  · intro j b hj hb
    have h0 := h.past j hj
    obtain ⟨hl, rfl⟩ := List.getElem?_eq_some_iff.1 hb
    rw [bt_get l j hl] at h0
    exact UInt8.toNat_inj.1 (by simpa using h0)
  · intro b hn hb hb0
    obtain ⟨hl, rfl⟩ := List.getElem?_eq_some_iff.1 hb
    have h1 := h.ok (n - 1) (by omega)
    rw [bt_get l _ hl, hb0] at h1
    simp at h1
 have hlen : (l.take n).length = n := by rw [List.length_take]; have := h.len; have := h.le; omega
 have hg := h.ge
 unfold pagesF
 rw [if_pos ⟨rfl, h.len⟩, ht, hlen, if_pos]
 refine ⟨h.ge, h.le, ?_, ?_, ?_⟩
 · rw [bt_take l n 0 (by omega)]; exact h.b0
 · rw [bt_take l n 1 (by omega)]; exact h.b1
 · rw [← okTo_all, hlen]
   intro j hj
   rw [bt_take l n j hj]
   exact h.ok j hj
theorem IsMap.set {n : Nat} {l : List UInt8} (h : IsMap n l) (i : Nat) (b : UInt8) (h2 : 2 ≤ i) (hi : i < n) (hb : b = 1 ∨ b = 2) : IsMap n (l.set i b) := by
 have hl := h.len
 have hle := h.le
 have hbt := bt_set l i b (by omega)
 refine ⟨by rw [List.length_set]; exact hl, h.ge, hle, ?_, ?_, ?_, ?_⟩
 · intro j hj
   rw [hbt]
   split
   · rcases hb with rfl | rfl
     · left; rfl
     · right; rfl
   · exact h.ok j hj
 · intro j hj
   rw [hbt, if_neg (by omega)]
   exact h.past j hj
 · rw [hbt, if_neg (by omega)]; exact h.b0
 · rw [hbt, if_neg (by omega)]; exact h.b1

theorem bt_newL (n : Nat) (hn : n ≤ 240) (i : Nat) : bt (newL n) i = if i < n then (if i < 2 then 1 else 2) else 0 := by
 induction n with
 | zero =>
  rw [if_neg (by omega)]
  unfold bt
  rw [newL, zs, List.getD_eq_getElem?_getD, List.getElem?_replicate]
  split <;> rfl
 | succ n ih =>
  have hl := newL_len n
  have ih := ih (by omega)
  rw [newL]
  split
  · rw [bt_set _ n 1 (by rw [List.length_set, hl]; omega), bt_set _ n 2 (by rw [hl]; omega), ih]
    split
    · rw [if_pos (by omega), if_pos (by omega)]; rfl
    · by_cases h : i < n
      · rw [if_pos h, if_pos (show i < n + 1 by omega)]
      · rw [if_neg h, if_neg (show ¬ i < n + 1 by omega)]
  · rw [bt_set _ n 2 (by rw [hl]; omega), ih]
    split
    · rw [if_pos (by omega), if_neg (by omega)]; rfl
    · by_cases h : i < n
      · rw [if_pos h, if_pos (show i < n + 1 by omega)]
      · rw [if_neg h, if_neg (show ¬ i < n + 1 by omega)]
theorem isMap_new (n : Nat) (h8 : 8 ≤ n) (h64 : n ≤ 64) : IsMap n (newL n) := by
 have hb := bt_newL n (by omega)
 refine ⟨newL_len n, h8, h64, ?_, ?_, ?_, ?_⟩
 · intro i hi
   rw [hb, if_pos hi]
   split
   · left; rfl
   · right; rfl
 · intro i hi
   rw [hb, if_neg (by omega)]
 · rw [hb, if_pos (by omega), if_pos (by omega)]
 · rw [hb, if_pos (by omega), if_pos (by omega)]

theorem usedF_map {n : Nat} {l : List UInt8} (h : IsMap n l) (i : Int) : usedF 2 l i = true ↔ 0 ≤ i ∧ i < (n : Int) ∧ bt l i.toNat = 1 := by
 rw [usedF_iff, pagesF_map h]
theorem idx_spec (l : List UInt8) (c : UInt8) : (Lib.indexByte l c = -1 ∧ ∀ j : Nat, l[j]? ≠ some c) ∨ ∃ i : Nat, Lib.indexByte l c = i ∧ i < l.length ∧ l[i]? = some c ∧ ∀ j : Nat, j < i → l[j]? ≠ some c := by
 induction l with
 | nil => left; exact ⟨rfl, by simp⟩
 | cons b l ih =>
  unfold Lib.indexByte
  by_cases hb : b = c
  · right
    refine ⟨0, ?_, by simp, by simp [hb], fun j hj => absurd hj (by omega)⟩
    simp [hb]
  · have hb' : (b == c) = false := by simpa using hb
    rcases ih with ⟨h1, h2⟩ | ⟨i, h1, h2, h3, h4⟩
    · left
      rw [h1]
      refine ⟨by simp [hb'], fun j => ?_⟩
      cases j with
      | zero => simpa using hb
      | succ j => simpa using h2 j
    · right
      rw [h1]
      refine ⟨i + 1, ?_, by simpa using h2, by simpa using h3, fun j hj => ?_⟩
      · have : ((i : Int) == -1) = false := by simp
        simp [hb', this]
      · cases j with
        | zero => simpa using hb
        | succ j => simpa using h4 j (by omega)
theorem takeI_map {n : Nat} {l : List UInt8} (h : IsMap n l) :
 (takeI 2 l = -1 ∧ ∀ i, i < n → bt l i = 1) ∨ ∃ i : Nat, takeI 2 l = i ∧ 2 ≤ i ∧ i < n ∧ bt l i = 2 ∧ ∀ j, j < i → bt l j = 1 := by
 unfold takeI
 rw [pagesF_map h]
 have hlen : (l.take n).length = n := by rw [List.length_take]; have := h.len; have := h.le; omega
 have key : ∀ j, j < n → ((l.take n)[j]? = some 2 ↔ bt l j = 2) := fun j hj => by
  have hl : j < (l.take n).length := by omega
  rw [← bt_take l n j hj]
  rw [List.getElem?_eq_getElem hl, Option.some.injEq]
  exact (bt_eq _ j hl 2).symm
 rcases idx_spec (l.take n) 2 with ⟨h1, h2⟩ | ⟨i, h1, h2, h3, h4⟩
 · left
   refine ⟨h1, fun i hi => ?_⟩
   rcases h.ok i hi with h5 | h5
   · exact h5
   · exact absurd ((key i hi).2 h5) (h2 i)
 · right
   rw [hlen] at h2
   have h5 := (key i h2).1 h3
   refine ⟨i, h1, ?_, h2, h5, fun j hj => ?_⟩
   · rcases Nat.lt_or_ge i 2 with h6 | h6
     · match i, h6 with
       | 0, _ => rw [h.b0] at h5; simp at h5
       | 1, _ => rw [h.b1] at h5; simp at h5
     · exact h6
   · rcases h.ok j (by omega) with h6 | h6
     · exact h6
     · exact absurd ((key j (by omega)).2 h6) (h4 j hj)
end Go.Proofs.YtijhamllnnilbaaGreatDoor.Sp
namespace Go.Proofs.YtijhamllnnilbaaGreatDoor.Gr
open Go.RowKit Go.Proofs.YtijhamllnnilbaaGreatDoor.Mem Go.Proofs.YtijhamllnnilbaaGreatDoor.Pg Go.Proofs.YtijhamllnnilbaaGreatDoor.Kp Go.Proofs.YtijhamllnnilbaaGreatDoor.Sp
set_option linter.unusedSimpArgs false
set_option linter.unusedVariables false

structure MapPage (n : Nat) (dead : Int) (B : Nat → List UInt8) (M : Int → Option (List UInt8)) (d x : Int) (l : List UInt8) : Prop where
 seen : ∃ b, seen n dead B M 1 = (b, 0) ∧ Shows b ⟨2, d, x, l⟩
theorem Grp.setTk {w : World} {gb mb sb : Nat} {M : Int → Option (List UInt8)} {tk : Int} (h : Grp w gb mb sb M tk) (tk' : Int) : Grp (w.setCell ⟨gb, 2, none⟩ (.int .i64 tk')) gb mb sb M tk' :=
 ⟨heap_setCell_same w gb 2 _ _ (.int .i64 tk') h.grp, h.map.block (heap_setCell_other _ _ _ _ h.ne.symm)⟩
theorem Tab.setCell {w : World} (h : Tab w) {g j : Nat} {u : Value} (hg : gtab ≠ g) : Tab (w.setCell ⟨g, j, none⟩ u) := h.of_block (heap_setCell_other _ _ _ _ hg)
theorem wf1 : (Lit.int .i64 1).wf = true := by decide
theorem MapPage.ok {n : Nat} {dead : Int} {B : Nat → List UInt8} {M : Int → Option (List UInt8)} {d x : Int} {l : List UInt8} (h : MapPage n dead B M d x l) : Pag.ok ⟨2, d, x, l⟩ := by
 obtain ⟨b, _, hs⟩ := h.seen
 exact hs.ok
theorem MapPage.len {n : Nat} {dead : Int} {B : Nat → List UInt8} {M : Int → Option (List UInt8)} {d x : Int} {l : List UInt8} (h : MapPage n dead B M d x l) : l.length = 240 := h.ok.2.2.2.2.2.2
theorem mapGet {w : World} {gb mb sb qb n c : Nat} {dead : Int} {B : Nat → List UInt8} {M : Int → Option (List UInt8)} {tk d x : Int} {l : List UInt8} (ht : Tab w) (hs : Sto w sb qb n c dead B) (hg : Grp w gb mb sb M tk) (hm : MapPage n dead B M d x l) :
 Calls Tryz.prog 64 #[.pointer (some ⟨gb, 0, none⟩), .int .i64 1] w fun e w' => e = .returned (.tuple #[.agg #[.int .i64 2, .int .i64 d, .int .i64 x, .string (str l)], .int .i64 0]) ∧ Below w.heap.size w w' := by
 obtain ⟨b, h1, h2⟩ := hm.seen
 exact gget_any w gb mb sb qb n c dead B M tk 1 wf1 ht hs hg b _ h1 h2

set_option maxRecDepth 100000 in
set_option maxHeartbeats 2000000 in
theorem gfree_any (w : World) (gb mb sb qb n c : Nat) (dead : Int) (B : Nat → List UInt8) (M : Int → Option (List UInt8)) (tk d x : Int) (l : List UInt8) (ht : Tab w) (hs : Sto w sb qb n c dead B) (hg : Grp w gb mb sb M tk) (hm : MapPage n dead B M d x l) :
 Calls Tryz.prog 29 #[.pointer (some ⟨gb, 0, none⟩)] w fun e w' => e = .returned (.int .i64 ((l.take (pagesF 2 l)).count 2 : Nat)) ∧ Below w.heap.size w w' := by
 have hget := mapGet ht hs hg hm
 have hfr := fun W => free_any 2 d x l W (by have := hm.len; omega)
 obtain ⟨T, hT⟩ : ∃ T, T = str l := ⟨_, rfl⟩
 rw [← hT] at hget hfr
 generalize (l.take (pagesF 2 l)).count 2 = q at *
 clear ht hs hg hm hT
 go_enter Tryz.func29, Tryz.ntmps29
 go_wp2_with fail
 with_reducible refine hget.mono ?_
 rintro e w1 ⟨rfl, hb1⟩
 have q3 := heap_alloc_new w1 (.cells #[.int .i64 2, .int .i64 d, .int .i64 x, .string T] 113)
 have c3 := blk_cell q3
 have hbb := below_al hb1 (.cells #[.int .i64 2, .int .i64 d, .int .i64 x, .string T] 113)
 clear q3 hb1
 go_wp2_with fail
 with_reducible refine (hfr _).mono ?_
 rintro e w2 ⟨rfl, hb2⟩
 have hbc := below_tr hbb hb2
 go_wp2_with fail
 go_ret
 exact ⟨rfl, hbc⟩

set_option maxRecDepth 100000 in
set_option maxHeartbeats 4000000 in
theorem gtake_ok (w : World) (gb mb sb qb n c : Nat) (dead : Int) (B : Nat → List UInt8) (M : Int → Option (List UInt8)) (tk d x : Int) (l : List UInt8) (ht : Tab w) (hs : Sto w sb qb n c dead B) (hg : Grp w gb mb sb M tk) (hm : MapPage n dead B M d x l) (i : Nat) (hi : takeI 2 l = i) (hip : i < pagesF 2 l) (hk : -1000000 ≤ tk ∧ tk ≤ 1000000) (hgt : gtab < gb ∧ gtab < mb) :
 Calls Tryz.prog 73 #[.pointer (some ⟨gb, 0, none⟩)] w fun e w' => e = .returned (.tuple #[.int .i64 i, .int .i64 0]) ∧ Grp w' gb mb sb (upd M 1 (Pag.bytes ⟨2, d, x, l.set i 1⟩)) (tk + 1) ∧ Keep (fun j => j = gb ∨ j = mb) w w' := by
 have hget := mapGet ht hs hg hm
 have htk := fun W => take_ok 2 d x l W (by have := hm.len; omega) i hi hip
 have hok : Pag.ok ⟨2, d, x, l.set i 1⟩ := by
  obtain ⟨a1, a2, a3, a4, a5, a6, a7⟩ := hm.ok
  exact Pag.ok_mk ⟨a1, a2⟩ ⟨a3, a4⟩ ⟨a5, a6⟩ (by simpa using a7)
 have hput := fun W tk' (t : Tab W) (g : Grp W gb mb sb M tk') => gput_ok W gb mb sb M tk' 1 ⟨2, d, x, l.set i 1⟩ t g hok (by omega) (by omega)
 simp only [Pag.v] at hput
 obtain ⟨T, hT⟩ : ∃ T, T = str l := ⟨_, rfl⟩
 obtain ⟨U, hU⟩ : ∃ U, U = str (l.set i 1) := ⟨_, rfl⟩
 rw [← hT] at hget htk
 rw [← hU] at htk hput
 obtain ⟨M', hM'⟩ : ∃ M', M' = upd M 1 (Pag.bytes ⟨2, d, x, l.set i 1⟩) := ⟨_, rfl⟩
 rw [← hM'] at hput ⊢
 have Hg := Lib.hid hg
 have Ht := Lib.hid ht
 have Hne := Lib.hid hg.ne
 have Hgt := Lib.hid hgt
 have i1 : IntKind.i64.wrap (tk + 1) = tk + 1 := IntWalk.i64_in _ (by omega)
 clear ht hs hg hm hT hU hM' hi hip hok hgt hk
 go_enter Tryz.func73, Tryz.ntmps73
 go_wp2_with fail
 with_reducible refine hget.mono ?_
 rintro e w1 ⟨rfl, hb1⟩
 have q6 := heap_alloc_new w1 (.cells #[.int .i64 2, .int .i64 d, .int .i64 x, .string T] 113)
 have c6 := blk_cell q6
 have hbb := below_al hb1 (.cells #[.int .i64 2, .int .i64 d, .int .i64 x, .string T] 113)
 clear q6 hb1 hget
 go_wp2_with fail
 with_reducible refine (htk _).mono ?_
 rintro e w2 ⟨rfl, hb2⟩
 have hbc := below_al (below_tr hbb hb2) (.cells #[.int .i64 2, .int .i64 d, .int .i64 x, .string U] 113)
 have q8 := heap_alloc_new w2 (.cells #[.int .i64 2, .int .i64 d, .int .i64 x, .string U] 113)
 have hsz : w.heap.size ≤ w2.heap.size := by have := hbb.size; have := hb2.size; simp at *; omega
 obtain ⟨w3, hw3⟩ : ∃ w3, w3 = w2.alloc (.cells #[.int .i64 2, .int .i64 d, .int .i64 x, .string U] 113) := ⟨_, rfl⟩
 rw [← hw3] at hbc q8
 have g3 := Hg.out.below hbc
 have cg := blk_cell g3.grp
 have fg := blk_free g3.grp
 have zg := g3.lt1
 have c8 := blk_cell q8
 have z8 := lt_of_block q8
 have hne8 : gb ≠ w2.heap.size := by have := Hg.out.lt1; omega
 have hne8' : w2.heap.size ≠ gb := fun e => hne8 e.symm
 have G3 := Lib.hid g3
 have Hbc := Lib.hid hbc
 have T3 := Lib.hid (Ht.out.below hbc)
 clear hbb hb2 c6 htk hbc q8 g3
 rw [hw3] at cg fg zg c8 z8
 have W3 := Lib.hid hw3
 clear hw3
 go_wp2_with fail
 have g4 := G3.out.setTk (tk + 1)
 have t4 := T3.out.setCell (j := 2) (u := .int .i64 (tk + 1)) (show gtab ≠ gb by have := Hgt.out; omega)
 have k4 : Keep (fun j => j = gb ∨ j = mb) w (w3.setCell ⟨gb, 2, none⟩ (.int .i64 (tk + 1))) := (Keep.of_below Hbc.out).setCell (.inl (.inl rfl)) _
 rw [W3.out] at g4 t4 k4
 clear cg fg zg c8 z8
 with_reducible refine (hput _ _ t4 g4).mono ?_
 rintro e w5 ⟨rfl, g5, k5⟩
 clear g4 t4 i1
 go_wp2_with fail
 go_ret2
 exact ⟨rfl, g5, k4.trans (k5.mono (fun j h => .inr h))⟩

set_option maxRecDepth 100000 in
set_option maxHeartbeats 2000000 in
theorem gtake_no (w : World) (gb mb sb qb n c : Nat) (dead : Int) (B : Nat → List UInt8) (M : Int → Option (List UInt8)) (tk d x : Int) (l : List UInt8) (ht : Tab w) (hs : Sto w sb qb n c dead B) (hg : Grp w gb mb sb M tk) (hm : MapPage n dead B M d x l) (hi : takeI 2 l < 0) (hip : pagesF 2 l ≠ 0) :
 Calls Tryz.prog 73 #[.pointer (some ⟨gb, 0, none⟩)] w fun e w' => e = .returned (.tuple #[.int .i64 0, .int .i64 6]) ∧ Below w.heap.size w w' := by
 have hget := mapGet ht hs hg hm
 have htk := fun W => take_disk 2 d x l W (by have := hm.len; omega) hip hi
 obtain ⟨T, hT⟩ : ∃ T, T = str l := ⟨_, rfl⟩
 rw [← hT] at hget htk
 clear ht hs hg hm hT hi hip
 go_enter Tryz.func73, Tryz.ntmps73
 go_wp2_with fail
 with_reducible refine hget.mono ?_
 rintro e w1 ⟨rfl, hb1⟩
 have q6 := heap_alloc_new w1 (.cells #[.int .i64 2, .int .i64 d, .int .i64 x, .string T] 113)
 have c6 := blk_cell q6
 have hbb := below_al hb1 (.cells #[.int .i64 2, .int .i64 d, .int .i64 x, .string T] 113)
 clear q6 hb1 hget
 go_wp2_with fail
 with_reducible refine (htk _).mono ?_
 rintro e w2 ⟨rfl, hb2⟩
 have hbc := below_al (below_tr hbb hb2) (.cells #[.int .i64 0, .int .i64 0, .int .i64 0, .string ⟨#[]⟩] 113)
 clear c6 htk hbb hb2
 go_wp2_with fail
 go_ret2
 exact ⟨rfl, hbc⟩

end Go.Proofs.YtijhamllnnilbaaGreatDoor.Gr
namespace Go.Proofs.YtijhamllnnilbaaGreatDoor.Pg
open Go.RowKit Go.Proofs.YtijhamllnnilbaaGreatDoor.Mem

set_option maxRecDepth 100000 in
theorem conv_one (W : World) (g c : Nat) (b : UInt8) (h : W.cell? ⟨g, 0, none⟩ = some (.int .u8 b.toNat)) :
 (convert 43 9 (.slice (some ⟨g, 0, none⟩) 1 c)).run Tryz.prog W = .ok (.string ⟨#[b]⟩) W := by
 have h0 : ∀ i, i < 1 → W.cell? ⟨g, 0 + i, none⟩ = some (.int .u8 ([(b.toNat : Int)].getD i 0)) := fun i hi => by
  obtain rfl : i = 0 := by omega
  simpa using h
 have := run_convert_bytes_arg (P := Tryz.prog) W 43 5 Tryz.underlying43 Tryz.underlying5 g 0 1 c [(b.toNat : Int)] rfl h0 9 Tryz.underlying9
 rw [this]
 simp [strOfNums]

theorem cut_set (l : List UInt8) (n : Nat) (b : UInt8) (hn : n < l.length) : (str l).extract 0 n ++ ⟨#[b]⟩ ++ (str l).extract (n + 1) (str l).size = str (l.set n b) := by
 apply ByteArray.ext
 apply Array.toList_inj.1
 simp [ByteArray.data_append, ByteArray.data_extract, str_size]
 rw [List.set_eq_take_append_cons_drop, if_pos hn, List.take_of_length_le (l := List.drop (n + 1) l) (by simp)]

set_option maxRecDepth 100000 in
theorem conv_zeros (W : World) (g n c : Nat) (h : ∀ i, i < n → W.cell? ⟨g, i, none⟩ = some (.int .u8 0)) :
 (convert 43 9 (.slice (some ⟨g, 0, none⟩) n c)).run Tryz.prog W = .ok (.string (str (zs n))) W := by
 have h0 : ∀ i, i < n → W.cell? ⟨g, 0 + i, none⟩ = some (.int .u8 ((List.replicate n (0 : Int)).getD i 0)) := fun i hi => by
  rw [Nat.zero_add, List.getD_eq_getElem?_getD, List.getElem?_replicate, if_pos hi]
  exact h i hi
 have := run_convert_bytes_arg (P := Tryz.prog) W 43 5 Tryz.underlying43 Tryz.underlying5 g 0 n c (List.replicate n (0 : Int)) (by simp) h0 9 Tryz.underlying9
 rw [this]
 congr 2
 simp [strOfNums, zs, str]

set_option maxRecDepth 100000 in
theorem made_cell (n i : Nat) (h : i < n) : (madeCells (Value.int .u8 0).cells n)[i]? = some (.int .u8 0) := by
 unfold madeCells
 simp [Value.cells, h, Nat.mod_one]

set_option maxRecDepth 100000 in
theorem make_zeros (n : Nat) (hn : n ≤ 1000) : ∃ A : Array Value, (∀ W : World, (Instr.makeSlice 43 (.int .i64 n) (.int .i64 n)).run Tryz.prog W = .ok (.slice (some ⟨W.heap.size, 0, none⟩) n n) (W.alloc (.cells A 5))) ∧
 ∀ W : World, (convert 43 9 (.slice (some ⟨W.heap.size, 0, none⟩) n n)).run Tryz.prog (W.alloc (.cells A 5)) = .ok (.string (str (zs n))) (W.alloc (.cells A 5)) := by
 refine ⟨madeCells (Value.int .u8 0).cells n, fun W => ?_, fun W => ?_⟩
 · have := run_makeSlice (P := Tryz.prog) W 43 5 Tryz.t5 (.int .u8 0) Tryz.underlying43 (by kernel_rfl) (by kernel_rfl) .i64 .i64 n n (by omega) (Int.le_refl _) (by show (n : Int).toNat * 1 ≤ _; omega) (by show ((1 : Nat) : Int) * n ≤ _; omega) (by omega)
   rw [this]
   simp only [Int.toNat_natCast]
   rw [show n * (Tryz.t5).size = n from Nat.mul_one n]
 · apply conv_zeros
   intro i hi
   rw [World.cell?_alloc_at _ _ _ _ rfl]
   exact made_cell n i hi

set_option maxRecDepth 100000 in
theorem refZeros_any (n : Nat) (w : World) (hn : n ≤ 1000) :
 Calls Tryz.prog 23 #[.int .i64 n] w fun e w' => e = .returned (.string (str (zs n))) ∧ Below w.heap.size w w' := by
 have hmax : max (n : Int) 0 = (n : Int) := by omega
 obtain ⟨A, hmk, hcv⟩ := make_zeros n hn
 generalize str (zs n) = z at *
 go_enter Tryz.func23, Tryz.ntmps23
 go_wp2
 go_ret
 exact ⟨rfl, below_al (Below.refl _ _) _⟩
end Go.Proofs.YtijhamllnnilbaaGreatDoor.Pg
namespace Go.Proofs.YtijhamllnnilbaaGreatDoor.Gr
open Go.RowKit Go.Proofs.YtijhamllnnilbaaGreatDoor.Mem Go.Proofs.YtijhamllnnilbaaGreatDoor.Pg Go.Proofs.YtijhamllnnilbaaGreatDoor.Kp Go.Proofs.YtijhamllnnilbaaGreatDoor.Sp
set_option linter.unusedSimpArgs false
set_option linter.unusedVariables false

theorem info_string : (Tryz.prog.info? 9).map (fun i => (i.zero, i.size, i.bytes)) = some (some (.string ⟨#[]⟩), 1, 16) := by kernel_rfl
theorem own_set {w : World} {base k j n : Nat} {e : TypeId} {size : Nat} {v u : Value} {xs : List Value} (h : w.ownsRow base e size v n xs) (hk : k < base) : (w.setCell ⟨k, j, none⟩ u).ownsRow base e size v n xs := by
 refine ⟨h.1, ?_⟩
 rcases h.2 with h2 | ⟨g, cap, cur, h1, h2, h3, h4⟩
 · exact .inl h2
 · exact .inr ⟨g, cap, cur, h1, h2, (heap_setCell_other _ _ _ _ (show g ≠ k by omega)).trans h3, h4⟩
abbrev sto (v : Value) : Obj := .cells #[v, .int .i64 (-1)] 115 (0, 0)
def B0 (n i : Nat) : List UInt8 := if i = 1 then Pag.bytes ⟨2, 0, 0, newL n⟩ else zs 256
theorem B0_len (n i : Nat) : (B0 n i).length = 256 := by
 unfold B0
 split
 · exact Pag.bytes_len (Pag.ok_mk (by omega) (by omega) (by omega) (newL_len n))
 · exact zs_len 256
theorem newPage_ok (n : Nat) : Pag.ok ⟨2, 0, 0, newL n⟩ := Pag.ok_mk (by omega) (by omega) (by omega) (newL_len n)

set_option maxRecDepth 100000 in
set_option maxHeartbeats 4000000 in
theorem snew_any (n : Nat) (w : World) (ht : Tab w) (h8 : 8 ≤ n) (h64 : n ≤ 64) :
 Calls Tryz.prog 47 #[.int .i64 n] w fun e w' => ∃ sb qb c, e = .returned (.pointer (some ⟨sb, 0, none⟩)) ∧ w.heap.size ≤ sb ∧ w.heap.size ≤ qb ∧ Below w.heap.size w w' ∧ Sto w' sb qb n c (-1) (B0 n) := by
 have hz : ∀ w, Calls Tryz.prog 23 #[.int .i64 256] w fun e w' => e = .returned (.string (str (zs 256))) ∧ Below w.heap.size w w' := fun w => refZeros_any 256 w (by omega)
 have hnew := fun w => new_ok n w h8 h64
 have hput := fun W (k : Tab W) => put_yes ⟨2, 0, 0, newL n⟩ W k (newPage_ok n)
 simp only [Pag.v] at hput
 obtain ⟨Z, hZ⟩ : ∃ Z, Z = str (zs 256) := ⟨_, rfl⟩
 obtain ⟨P, hP⟩ : ∃ P, P = str (Pag.bytes ⟨2, 0, 0, newL n⟩) := ⟨_, rfl⟩
 obtain ⟨T, hT⟩ : ∃ T, T = str (newL n) := ⟨_, rfl⟩
 rw [← hZ] at hz
 rw [← hP, ← hT] at hput
 rw [← hT] at hnew
 have HZ := Lib.hid hZ
 have HP := Lib.hid hP
 obtain ⟨i0, hif, hz0, hz1, hz2⟩ := info_parts info_string
 have k3 : (w.alloc (.cells #[.slice none 0 0, .int .i64 (-1)] 115)).heap[w.heap.size]? = some (sto (.slice none 0 0)) := heap_alloc_new w _
 have b3 := below_al (Below.refl _ w) (.cells #[.slice none 0 0, .int .i64 (-1)] 115)
 have o3 : (w.alloc (.cells #[.slice none 0 0, .int .i64 (-1)] 115)).ownsRow (w.heap.size + 1) 9 1 (.slice none 0 0) 0 [] := World.ownsRow_nil _ _ _ _
 have HT0 := Lib.hid ht
 clear hZ hP hT ht
 go_enter Tryz.func47, Tryz.ntmps47
 go_wp2_with fail
 go_loopw [4] (fun i wr => ∃ (j : Nat) (v : Value), i = .int .i64 j ∧ j ≤ n ∧ wr.heap[w.heap.size]? = some (sto v) ∧ wr.ownsRow (w.heap.size + 1) 9 1 v j (List.replicate j (.string Z)) ∧ Below w.heap.size w wr) (fun i _ => n - (intOf i).toNat)
 case atStart => exact ⟨0, _, rfl, Nat.zero_le _, k3, o3, b3⟩
 case round =>
  clear k3 o3 b3
  obtain ⟨j, v, rfl, hj, k3, o3, b3⟩ := hrel
  have c3 := blk_cell k3
  have f3 := blk_free k3
  have z3 := lt_of_block k3
  by_cases hlt : j < n
  · have d1 : decide ((j : Int) < (n : Int)) = true := by simpa using hlt
    have d2 : decide (j < n) = true := by simpa using hlt
    go_wp2_with fail
    go_region_law (first | (go_simp; go_at_call 23; with_reducible refine (hz _).mono ?_; rintro e w2 ⟨rfl, hb2⟩; have k4 := blk_keep (w := wr.drew) k3 hb2; have c4 := blk_cell k4; have z4 := lt_of_block k4; have f4 := blk_free k4; have o4 := own_below o3.drew hb2) | (refine step_append_lies _ (by rfl) _ _ _ (by rfl) (w.heap.size + 1) 9 i0 _ 1 16 Tryz.underlying22 hif hz0 hz1 hz2 rfl (by omega) v j (List.replicate j (.string Z)) (by rfl) (o4.alloc _) ⟨w2.heap.size, 0, none⟩ 1 1 [.string Z] (by rfl) (by rfl) (cells_one _ _ _) (by simp [Value.oneCell']) (by omega) (by unfold maxLen; omega) (by omega) (by simp; omega) _ rfl ?_; intro g1 cap1 w4 own1 hgr1 hat1 hlt1; have k6 := keep_grown o4 hgr1 (Nat.lt_succ_self _) (hal k4); have c6 := blk_cell k6; have f6 := blk_free k6; have z6 := lt_of_block k6))
    all_goals
     have b2 := below_base (a := wr.drew) (below_dr b3) b3.size hb2
     have b6 := below_grown (below_al b2 (.cells #[.string Z] 9)) (by have := b2.size; simp; omega) (row_mono o4 (Nat.le_succ _)) hgr1
     have i1 : IntKind.i64.wrap ((j : Int) + 1) = (j : Int) + 1 := IntWalk.i64_in _ (by omega)
     go_wp2_with fail
     refine ⟨⟨j + 1, _, by go_num, by omega, heap_setCell_same _ _ 0 _ _ _ k6, ?_, below_set b6 (Nat.le_refl _)⟩, ?_⟩
     · rw [show List.replicate (j + 1) (Value.string Z) = List.replicate j (Value.string Z) ++ [Value.string Z] from List.replicate_succ']
       exact own_set own1 (Nat.lt_succ_self _)
     · clear i1
       simp [intOf]
       omega
  · obtain rfl : j = n := by omega
    have d1 : decide ((j : Int) < (j : Int)) = false := by simp
    have d3 : decide ((1 : Int) < (j : Int)) = true := by simp; omega
    have d3' : decide (1 < j) = true := by simp; omega
    obtain ⟨g, cap, cur, rfl, hgB, hblk, hcap, hcl⟩ : ∃ g cap cur, v = .slice (some ⟨g, 0, none⟩) j cap ∧ w.heap.size + 1 ≤ g ∧ wr.heap[g]? = some (.cells cur 9 (0, 0)) ∧ j ≤ cur.size ∧ ∀ i, i < j → cur[i]? = some (.string Z) := by
     rcases o3.2 with ⟨_, h⟩ | ⟨g, cap, cur, h1, h2, h3, h4, _, h5, h6⟩
     · omega
     · refine ⟨g, cap, cur, h1, h2, h3, by omega, fun i hi => ?_⟩
       have h7 : (cur.toList.take (j * 1))[i]? = some (.string Z) := by rw [h6, List.getElem?_replicate, if_pos hi]
       rw [List.getElem?_take_of_lt (by omega)] at h7
       simpa using h7
    have Hcl := Lib.hid hcl
    have zq := lt_of_block hblk
    have tr := HT0.out.below b3
    clear o3 hcl
    go_wp2_with fail
    with_reducible refine (hnew _).mono ?_
    rintro e w2 ⟨rfl, hb2⟩
    have hgz : g < w2.heap.size := Nat.lt_of_lt_of_le zq hb2.size
    have k4 := hal (o := .cells #[.int .i64 2, .int .i64 0, .int .i64 0, .string T] 113) (blk_keep k3 hb2)
    have kq := hal (o := .cells #[.int .i64 2, .int .i64 0, .int .i64 0, .string T] 113) (blk_keep hblk hb2)
    have kp := heap_alloc_new w2 (.cells #[.int .i64 2, .int .i64 0, .int .i64 0, .string T] 113)
    have b4 := below_al (below_base b3 b3.size hb2) (.cells #[.int .i64 2, .int .i64 0, .int .i64 0, .string T] 113)
    have c4 := blk_cell k4
    have z4 := lt_of_block k4
    have cq := blk_cell kq
    have zq4 := lt_of_block kq
    have cp := blk_cell kp
    have zp := lt_of_block kp
    have T4 := Lib.hid (HT0.out.below b4).drew
    clear c3 f3 z3 k3 hblk zq b3 hb2 tr
    go_wp2_with fail
    have hne1 : g ≠ w.heap.size := by omega
    have hne2 : g ≠ w2.heap.size := by omega
    have h1j : (1 : Int) < (j : Int) := by omega
    generalize hw5 : w2.alloc (.cells #[.int .i64 2, .int .i64 0, .int .i64 0, .string T] 113) = w5 at *
    go_region_law (go_simp; go_at_call 48; with_reducible refine (hput _ T4.out).mono ?_; rintro e w6 ⟨rfl, hb6⟩; have k6 := blk_keep (w := w5.drew) k4 hb6; have q6 := blk_keep (w := w5.drew) kq hb6; have c6 := blk_cell k6; have z6 := lt_of_block k6; have x6 := (blk_cell q6 1).trans (Hcl.out 1 (by omega)); have f6 := blk_free q6 1; have y6 := lt_of_block q6)
    all_goals
     have b6 := below_base (a := w5.drew) (below_dr b4) b4.size hb6
     go_wp2_with fail
     go_ret
     refine ⟨w.heap.size, g, cap, rfl, Nat.le_refl _, by omega, below_set b6 (by omega), ⟨?_, ⟨_, heap_setCell_same _ _ 1 _ _ _ q6, fun i hi => ?_⟩, by omega, by omega, fun i hi => by rw [B0_len]; omega⟩⟩
     · exact (heap_setCell_other _ _ _ _ (Ne.symm hne1)).trans k6
     · by_cases h1 : i = 1
       · subst h1
         rw [Array.getElem?_setIfInBounds, if_pos rfl, if_pos (by omega), HP.out]
         rfl
       · rw [Array.getElem?_setIfInBounds, if_neg (by omega), Hcl.out i hi, HZ.out, B0, if_neg h1]
end Go.Proofs.YtijhamllnnilbaaGreatDoor.Gr
namespace Go.Proofs.YtijhamllnnilbaaGreatDoor.Gr
open Go.RowKit Go.Proofs.YtijhamllnnilbaaGreatDoor.Mem Go.Proofs.YtijhamllnnilbaaGreatDoor.Pg Go.Proofs.YtijhamllnnilbaaGreatDoor.Kp Go.Proofs.YtijhamllnnilbaaGreatDoor.Sp
set_option linter.unusedVariables false
theorem below_keep {S : Nat → Prop} {B0 : Nat} {w a b : World} (h : Below B0 w a) (hB : B0 ≤ a.heap.size) (k : Keep S a b) (hs : ∀ i, S i → B0 ≤ i) : Below B0 w b := h.trans (k.to_below hB hs)
abbrev none0 : Int → Option (List UInt8) := fun _ => none
theorem rd_in {n : Nat} {B : Nat → List UInt8} {j : Nat} (h : j < n) : rd n (-1) B j = (B j, 0) := by
 unfold rd
 rw [if_neg (by omega), if_pos ⟨by omega, by omega⟩, Int.toNat_natCast]
end Go.Proofs.YtijhamllnnilbaaGreatDoor.Gr
namespace Go.Proofs.YtijhamllnnilbaaGreatDoor.Gr
open Go.RowKit Go.Proofs.YtijhamllnnilbaaGreatDoor.Mem Go.Proofs.YtijhamllnnilbaaGreatDoor.Pg Go.Proofs.YtijhamllnnilbaaGreatDoor.Kp Go.Proofs.YtijhamllnnilbaaGreatDoor.Sp
set_option linter.unusedVariables false

def updN (pg : Nat → Pag) (i : Nat) (p : Pag) : Nat → Pag := fun j => if j = i then p else pg j
theorem updN_same (pg : Nat → Pag) (i : Nat) (p : Pag) : updN pg i p i = p := if_pos rfl
theorem updN_other (pg : Nat → Pag) {i j : Nat} (p : Pag) (h : j ≠ i) : updN pg i p j = pg j := if_neg h
structure GV (w0 w : World) (gb mb sb qb c n : Nat) (pg : Nat → Pag) (tk : Int) : Prop where
 tab : Tab w
 st : ∃ B M, Sto w sb qb n c (-1) B ∧ Grp w gb mb sb M tk ∧ ∀ i, i < n → ∃ b, seen n (-1) B M i = (b, 0) ∧ Shows b (pg i)
 n64 : n ≤ 64
 bel : Below w0.heap.size w0 w
 ord : w0.heap.size ≤ gb ∧ w0.heap.size ≤ mb ∧ sb < gb ∧ sb < mb ∧ qb < gb ∧ qb < mb ∧ gtab < gb ∧ gtab < mb
section
variable {w0 w w' : World} {gb mb sb qb c n : Nat} {pg : Nat → Pag} {tk : Int}
theorem GV.below (h : GV w0 w gb mb sb qb c n pg tk) (k : Below w.heap.size w w') : GV w0 w' gb mb sb qb c n pg tk := by
 obtain ⟨B, M, h1, h2, h3⟩ := h.st
 exact ⟨h.tab.below k, ⟨B, M, h1.below k, h2.below k, h3⟩, h.n64, below_base h.bel h.bel.size k, h.ord⟩
theorem GV.keep {S : Nat → Prop} (h : GV w0 w gb mb sb qb c n pg tk) (k : Keep S w w') (hS : ∀ i, S i → i ≠ gb ∧ i ≠ mb ∧ w0.heap.size ≤ i ∧ i ≠ sb ∧ i ≠ qb ∧ i ≠ gtab) : GV w0 w' gb mb sb qb c n pg tk := by
 obtain ⟨B, M, h1, h2, h3⟩ := h.st
 exact ⟨h.tab.keep k (fun e => (hS _ e).2.2.2.2.2 rfl), ⟨B, M, h1.keep k (fun e => (hS _ e).2.2.2.1 rfl) (fun e => (hS _ e).2.2.2.2.1 rfl), h2.keep k (fun e => (hS _ e).1 rfl) (fun e => (hS _ e).2.1 rfl), h3⟩, h.n64, below_keep h.bel h.bel.size k (fun i hi => (hS i hi).2.2.1), h.ord⟩
theorem GV.lt (h : GV w0 w gb mb sb qb c n pg tk) : gb < w.heap.size ∧ mb < w.heap.size ∧ sb < w.heap.size ∧ qb < w.heap.size := by
 obtain ⟨B, M, h1, h2, h3⟩ := h.st
 exact ⟨h2.lt1, h2.lt2, h1.lt1, h1.lt2⟩
theorem GV.ok (h : GV w0 w gb mb sb qb c n pg tk) {i : Nat} (hi : i < n) : (pg i).ok := by
 obtain ⟨B, M, h1, h2, h3⟩ := h.st
 obtain ⟨b, _, hs⟩ := h3 i hi
 exact hs.ok
theorem GV.get (h : GV w0 w gb mb sb qb c n pg tk) (i : Nat) (hi : i < n) :
 Calls Tryz.prog 64 #[.pointer (some ⟨gb, 0, none⟩), .int .i64 i] w fun e w' => e = .returned (.tuple #[(pg i).v, .int .i64 0]) ∧ Below w.heap.size w w' := by
 obtain ⟨B, M, h1, h2, h3⟩ := h.st
 obtain ⟨b, hb, hs⟩ := h3 i hi
 have := h.n64
 exact gget_any w gb mb sb qb n c (-1) B M tk i (kl_wf (by omega) (by omega)) h.tab h1 h2 b (pg i) hb hs
theorem seen_put {n : Nat} {dead : Int} {B : Nat → List UInt8} {M : Int → Option (List UInt8)} {i : Nat} {p : Pag} (hp : p.ok) (h : ∀ j, j < n → ∃ b, seen n dead B M j = (b, 0) ∧ Shows b (pg j)) :
 ∀ j, j < n → ∃ b, seen n dead B (upd M i p.bytes) j = (b, 0) ∧ Shows b (updN pg i p j) := by
 intro j hj
 by_cases e : j = i
 · subst e
   refine ⟨p.bytes, ?_, ?_⟩
   · unfold seen; rw [upd_same]
   · rw [updN_same]; exact .inl ⟨hp, rfl⟩
 · obtain ⟨b, h1, h2⟩ := h j hj
   refine ⟨b, ?_, by rw [updN_other _ _ e]; exact h2⟩
   unfold seen upd at *
   rw [if_neg (by omega)]
   exact h1
theorem GV.put (h : GV w0 w gb mb sb qb c n pg tk) (i : Nat) (hi : i < n) (p : Pag) (hp : p.ok) :
 Calls Tryz.prog 75 #[.pointer (some ⟨gb, 0, none⟩), .int .i64 i, p.v] w fun e w' => e = .returned (.int .i64 0) ∧ GV w0 w' gb mb sb qb c n (updN pg i p) tk ∧ Keep (fun j => j = mb) w w' := by
 obtain ⟨B, M, h1, h2, h3⟩ := h.st
 have h64 := h.n64
 have o := h.ord
 refine (gput_ok w gb mb sb M tk i p h.tab h2 hp (by omega) (by omega)).mono ?_
 rintro e w' ⟨rfl, g', k'⟩
 exact ⟨rfl, ⟨h.tab.keep k' (by omega), ⟨B, _, h1.keep k' (by omega) (by omega), g', seen_put hp h3⟩, h64, below_keep h.bel h.bel.size k' (by omega), o⟩, k'⟩
theorem GV.mapPage (h : GV w0 w gb mb sb qb c n pg tk) {d x : Int} {l : List UInt8} (hp : pg 1 = ⟨2, d, x, l⟩) (h1 : 1 < n) : ∃ B M, Sto w sb qb n c (-1) B ∧ Grp w gb mb sb M tk ∧ (∀ i, i < n → ∃ b, seen n (-1) B M i = (b, 0) ∧ Shows b (pg i)) ∧ MapPage n (-1) B M d x l := by
 obtain ⟨B, M, h2, h3, h4⟩ := h.st
 refine ⟨B, M, h2, h3, h4, ⟨?_⟩⟩
 rw [← hp]
 exact h4 1 h1
theorem GV.take (h : GV w0 w gb mb sb qb c n pg tk) {d x : Int} {l : List UInt8} (hp : pg 1 = ⟨2, d, x, l⟩) (hm : IsMap n l) (hk : -1000000 ≤ tk ∧ tk ≤ 1000000) (i : Nat) (hi : takeI 2 l = i) (hn : i < n) :
 Calls Tryz.prog 73 #[.pointer (some ⟨gb, 0, none⟩)] w fun e w' => e = .returned (.tuple #[.int .i64 i, .int .i64 0]) ∧ GV w0 w' gb mb sb qb c n (updN pg 1 ⟨2, d, x, l.set i 1⟩) (tk + 1) ∧ Keep (fun j => j = gb ∨ j = mb) w w' := by
 have h8 := hm.ge
 obtain ⟨B, M, h2, h3, h4, h5⟩ := h.mapPage hp (by omega)
 have o := h.ord
 refine (gtake_ok w gb mb sb qb n c (-1) B M tk d x l h.tab h2 h3 h5 i hi (by rw [pagesF_map hm]; exact hn) hk ⟨o.2.2.2.2.2.2.1, o.2.2.2.2.2.2.2⟩).mono ?_
 rintro e w' ⟨rfl, g', k'⟩
 have hok : Pag.ok ⟨2, d, x, l.set i 1⟩ := by
  obtain ⟨a1, a2, a3, a4, a5, a6, a7⟩ := h5.ok
  exact Pag.ok_mk ⟨a1, a2⟩ ⟨a3, a4⟩ ⟨a5, a6⟩ (by simpa using a7)
 exact ⟨rfl, ⟨h.tab.keep k' (by omega), ⟨B, _, h2.keep k' (by omega) (by omega), g', seen_put (i := 1) hok h4⟩, h.n64, below_keep h.bel h.bel.size k' (by omega), o⟩, k'⟩
theorem GV.take_no (h : GV w0 w gb mb sb qb c n pg tk) {d x : Int} {l : List UInt8} (hp : pg 1 = ⟨2, d, x, l⟩) (hm : IsMap n l) (hi : takeI 2 l < 0) :
 Calls Tryz.prog 73 #[.pointer (some ⟨gb, 0, none⟩)] w fun e w' => e = .returned (.tuple #[.int .i64 0, .int .i64 6]) ∧ Below w.heap.size w w' := by
 have h8 := hm.ge
 obtain ⟨B, M, h2, h3, h4, h5⟩ := h.mapPage hp (by omega)
 exact gtake_no w gb mb sb qb n c (-1) B M tk d x l h.tab h2 h3 h5 hi (by rw [pagesF_map hm]; omega)
end
end Go.Proofs.YtijhamllnnilbaaGreatDoor.Gr
namespace Go.Proofs.YtijhamllnnilbaaGreatDoor.Bl
open Go.RowKit Go.Proofs.YtijhamllnnilbaaGreatDoor.Mem Go.Proofs.YtijhamllnnilbaaGreatDoor.Pg
def putPg (l : List UInt8) (at' : List Int) (n : Nat) : List Pg := (List.range n).map fun i => ⟨5, 0, nextOf at' i, body l i⟩
theorem putPg_get {l : List UInt8} {at' : List Int} {n i : Nat} {p : Pg} (h : (putPg l at' n)[i]? = some p) : i < n ∧ p = ⟨5, 0, nextOf at' i, body l i⟩ := by
 have hi : i < n := by have := (List.getElem?_eq_some_iff.1 h).1; simpa [putPg] using this
 rw [putPg, List.getElem?_map, List.getElem?_range hi] at h
 simp at h
 exact ⟨hi, h.symm⟩
theorem putPg_at (l : List UInt8) (at' : List Int) (n i : Nat) (h : i < n) : (putPg l at' n)[i]? = some ⟨5, 0, nextOf at' i, body l i⟩ := by simp [putPg, h]
theorem rows_get (l : List UInt8) (at' : List Int) : ∀ n i j, i < n → j < 4 → (rows l at' n)[i * 4 + j]? = (pgRow l at' i)[j]? := by
 intro n
 induction n with
 | zero => intro i j h; omega
 | succ n ih =>
  intro i j h hj
  rw [rows]
  rcases Nat.lt_or_eq_of_le (Nat.le_of_lt_succ h) with h' | rfl
  · rw [List.getElem?_append_left (by rw [rows_length]; omega)]
    exact ih i j h' hj
  · rw [List.getElem?_append_right (by rw [rows_length]; omega), rows_length, Nat.add_sub_cancel_left]
theorem pgs_own {w : World} {base g cap n : Nat} {l : List UInt8} {at' : List Int} (h : w.ownsRow base 113 4 (.slice (some ⟨g, 0, none⟩) n cap) n (rows l at' n)) (hn : n ≤ 1000) (hg : g < w.heap.size) : Pgs w (some ⟨g, 0, none⟩) n (putPg l at' n) := by
 refine ⟨by simp [putPg], hn, fun _ => ⟨g, 0, rfl, hg, fun i p hp j u hu => ?_⟩⟩
 obtain ⟨hi, rfl⟩ := putPg_get hp
 have hj : j < 4 := by have := (List.getElem?_eq_some_iff.1 hu).1; simpa [Pg.cells] using this
 rw [Nat.zero_add]
 exact own_at h _ u (by rw [rows_get l at' n i j hi hj]; exact hu)
theorem body_len (l : List UInt8) (i : Nat) : (body l i).length = 240 := by
 have := part_len l i
 rw [body, List.length_append, zs, List.length_replicate]
 omega
theorem nAt_part (l : List UInt8) (i : Nat) : nAt l.length i = (part l i).length := by
 rw [part_len, nAt]
 omega
theorem body_take (l : List UInt8) (i : Nat) : (body l i).take (nAt l.length i) = part l i := by rw [nAt_part, body, List.take_left]
theorem body_drop (l : List UInt8) (i : Nat) : ∀ c ∈ (body l i).drop (nAt l.length i), c = 0 := by
 rw [nAt_part, body, List.drop_left]
 intro c hc
 exact (List.mem_replicate.1 hc).2
theorem getOk_put {l : List UInt8} {at' : List Int} (h : PutOk l at') : GetOk l.length (putPg l at' at'.length) := by
 have hl : (putPg l at' at'.length).length = at'.length := by simp [putPg]
 refine ⟨by rw [hl]; exact h.1, by rw [hl, pgI_nat]; exact h.2.1, fun i p hp => ?_⟩
 obtain ⟨hi, rfl⟩ := putPg_get hp
 refine ⟨rfl, ?_, body_len l i, body_drop l i⟩
 rw [hl]
 show nextOf at' i = 0 ↔ _
 unfold nextOf
 by_cases h1 : i + 1 < at'.length
 · rw [if_pos h1]
   have := (h.2.2 (i + 1) h1).1
   omega
 · rw [if_neg h1]
   omega
theorem got_put (l : List UInt8) (at' : List Int) (n : Nat) : ∀ j, j ≤ n → got l.length (putPg l at' n) j = l.take (200 * j) := by
 intro j
 induction j with
 | zero => intro _; rfl
 | succ j ih =>
  intro h
  rw [got, ih (by omega), putPg_at l at' n j (by omega)]
  show _ ++ (body l j).take _ = _
  rw [body_take, part, show 200 * (j + 1) = 200 * j + 200 from by omega, List.take_add]
theorem got_put_all {l : List UInt8} {at' : List Int} (h : PutOk l at') : got l.length (putPg l at' at'.length) at'.length = l := by
 rw [got_put _ _ _ _ (Nat.le_refl _), List.take_of_length_le]
 have h1 := h.1
 have h2 := h.2.1
 unfold pgN at h2
 split at h2 <;> omega
end Go.Proofs.YtijhamllnnilbaaGreatDoor.Bl
namespace Go.Proofs.YtijhamllnnilbaaGreatDoor.Ha
open Go.RowKit Go.Proofs.YtijhamllnnilbaaGreatDoor.Mem Go.ChangeShapes Go.WideShapes Go.Deep
theorem c_str : Tryz.prog.cellsOf 9 = 1 := by kernel_rfl
theorem texts_of_trod {H : Type} {enc : TypeId × Value → H} {w : World} {base : Nat} {A : Option Addr} {len cap : Nat} {d : DataW H} {ps : List MemPlace} (h : DataW.Trod enc Tryz.prog w base (fun _ => true) true 22 (.slice A len cap) d ps) :
 ∃ Tx : Nat → ByteArray, len ≤ maxLen ∧ (∀ j, j < len → (Tx j).size ≤ maxLen) ∧ (0 < len → ∃ b off, A = some ⟨b, off, none⟩ ∧ b < w.heap.size ∧ ∀ j, j < len → w.cell? ⟨b, off + j, none⟩ = some (.string (Tx j))) := by
 obtain ⟨fuel, hf⟩ := h
 rcases open_strs Tryz.underlying22 Tryz.underlying9 c_str hf with ⟨hcs, _⟩ | ⟨a, l, c, m, Sx, hcs, _, hl, hcm, hm, _, hi⟩
 · simp [Value.cells] at hcs
   obtain ⟨rfl, rfl, rfl⟩ := hcs
   exact ⟨fun _ => ByteArray.empty, Nat.zero_le _, fun j hj => absurd hj (by omega), fun h0 => absurd h0 (by omega)⟩
 · simp [Value.cells] at hcs
   obtain ⟨rfl, rfl, rfl⟩ := hcs
   simp at hm
   refine ⟨Sx, Nat.le_trans hl hcm, fun j hj => (hi j (by omega)).2, fun h0 => ?_⟩
   obtain ⟨b, off, spot⟩ := a
   have hspot : spot = none := by
    have h1 := (hi 0 (by omega)).1
    have h2 : w.cell? ⟨b, off, spot⟩ = some (.string (Sx 0)) := by simpa [Addr.add] using h1
    exact World.cell?_spot h2
   subst hspot
   have hc : ∀ i, i < len → w.cell? ⟨b, off + i, none⟩ = some (.string (Sx i)) := fun i hil => by
    have h1 := (hi i (by omega)).1
    rw [Go.WideShapes.add_plain] at h1
    exact h1
   refine ⟨b, off, rfl, ?_, hc⟩
   rcases Nat.lt_or_ge b w.heap.size with h | h
   · exact h
   · exfalso
     have h1 := hc 0 h0
     rw [World.cell?] at h1
     simp [Array.getElem?_eq_none h] at h1
end Go.Proofs.YtijhamllnnilbaaGreatDoor.Ha
