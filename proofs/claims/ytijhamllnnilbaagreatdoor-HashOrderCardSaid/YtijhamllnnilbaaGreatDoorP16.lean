/- Lemmas of the claim, in their order:
- The contracts of a group's Put, Bytes.
- The contract of space.Give.
- The contracts of a group's Take, Give, Free.
- The contract of the laws' New: a store of n pages.
-/
import Derived.Test.YtijhamllnnilbaaGreatDoorP10
import Derived.Test.YtijhamllnnilbaaGreatDoorP09
import Derived.Test.YtijhamllnnilbaaGreatDoorP15
import Derived.OwnWalk
import Derived.Deep.RegionLaw
import Derived.Deep.RegionLawGrows
set_option linter.unusedVariables false
set_option linter.unusedSimpArgs false
namespace Go.Proofs.YtijhamllnnilbaaGreatDoor.Gr
open Go.RowKit Go.Proofs.YtijhamllnnilbaaGreatDoor.Mem Go.Proofs.YtijhamllnnilbaaGreatDoor.Pg Go.Proofs.YtijhamllnnilbaaGreatDoor.Kp
set_option linter.unusedSimpArgs false
set_option linter.unusedVariables false

theorem Grp.ne {w : World} {gb mb sb : Nat} {M : Int → Option (List UInt8)} {tk : Int} (h : Grp w gb mb sb M tk) : gb ≠ mb := fun e => by
 have h1 := h.grp
 obtain ⟨D, ks, ⟨es, clock, hb, _⟩, _⟩ := h.map.ex
 rw [e, hb] at h1
 cases h1

set_option maxRecDepth 100000 in
set_option maxHeartbeats 2000000 in
theorem gput_ok (w : World) (gb mb sb : Nat) (M : Int → Option (List UInt8)) (tk i : Int) (p : Pag) (ht : Tab w) (hg : Grp w gb mb sb M tk) (hp : p.ok) (h0 : 0 ≤ i) (h1 : i < 64) :
 Calls Tryz.prog 75 #[.pointer (some ⟨gb, 0, none⟩), .int .i64 i, p.v] w fun e w' => e = .returned (.int .i64 0) ∧ Grp w' gb mb sb (upd M i p.bytes) tk ∧ Keep (fun j => j = mb) w w' := by
 have hput := fun W (k : Tab W) => put_yes p W k hp
 have hlen := Pag.bytes_len hp
 have d0 : decide (i < 0) = false := by simp; omega
 have d1 : decide (64 ≤ i) = false := by simp; omega
 obtain ⟨b, hb⟩ : ∃ b, b = p.bytes := ⟨_, rfl⟩
 rw [← hb] at hput hlen ⊢
 obtain ⟨k, d, x, l⟩ := p
 simp only [Pag.v] at hput ⊢
 obtain ⟨T, hT⟩ : ∃ T, T = str l := ⟨_, rfl⟩
 obtain ⟨S, hS⟩ : ∃ S, S = str b := ⟨_, rfl⟩
 rw [← hT, ← hS] at hput
 rw [← hT]
 have HT := Lib.hid (ht.alloc (.cells #[.int .i64 k, .int .i64 d, .int .i64 x, .string T] 113))
 have hb1 := below_al (Below.refl _ w) (.cells #[.int .i64 k, .int .i64 d, .int .i64 x, .string T] 113)
 have k5 := heap_alloc_new w (.cells #[.int .i64 k, .int .i64 d, .int .i64 x, .string T] 113)
 have c5 := blk_cell k5
 have Hg1 := Lib.hid (hg.below hb1)
 have HB := Lib.hid hb1
 have Hi := Lib.hid (And.intro h0 h1)
 have HS := Lib.hid hS
 have Hl := Lib.hid hlen
 have Hne := Lib.hid hg.ne
 clear ht hg hp h0 h1 hb hT hS hb1 k5 hlen
 go_enter Tryz.func75, Tryz.ntmps75
 go_wp2_with fail
 with_reducible refine (hput _ HT.out).mono ?_
 rintro e w2 ⟨rfl, hb2⟩
 have hg2 := Hg1.out.below hb2
 have cg := blk_cell hg2.grp
 have zg := hg2.lt1
 obtain ⟨w3, hrun, hmap, hgr⟩ := hg2.map.put i Hi.out.1 Hi.out.2 b (by rw [Hl.out]; omega)
 rw [← HS.out] at hrun
 have hg3 : Grp w3 gb mb sb (upd M i b) tk := ⟨(hgr.block _ zg (fun e => Hne.out (Option.some.inj e))).trans hg2.grp, hmap⟩
 have hk3 : Keep (fun j => j = mb) w w3 := (Keep.of_below (below_tr HB.out hb2)).trans (Keep.grown hgr (fun j e => (Option.some.inj e).symm))
 have Hg3 := Lib.hid hg3
 have Hk3 := Lib.hid hk3
 clear hb2 hg2 hmap hgr hg3 hk3 c5
 go_wp2_with fail
 go_ret
 exact ⟨rfl, Hg3.out, Hk3.out⟩

end Go.Proofs.YtijhamllnnilbaaGreatDoor.Gr
namespace Go.Proofs.YtijhamllnnilbaaGreatDoor.Sp
open Go.RowKit Go.Proofs.YtijhamllnnilbaaGreatDoor.Mem Go.Proofs.YtijhamllnnilbaaGreatDoor.Pg

set_option maxRecDepth 100000 in
theorem give_ok (k d x : Int) (n : Nat) (l : List UInt8) (w : World) (hl : l.length ≤ 1000) (h2 : 2 ≤ n) (hu : usedF k l n = true) :
 Calls Tryz.prog 78 #[.agg #[.int .i64 k, .int .i64 d, .int .i64 x, .string (str l)], .int .i64 n] w fun e w' =>
  e = .returned (.tuple #[.agg #[.int .i64 k, .int .i64 d, .int .i64 x, .string (str (l.set n 2))], .int .i64 0]) ∧ Below w.heap.size w w' := by
 have hpg := fun w => pages_any k d x l w (by omega)
 have hug := fun w => used_any k d x n l w (by omega)
 have hp : pagesF k l ≠ 0 := by have := (usedF_iff k l n).1 hu; omega
 have hlen := (pagesF_len k l hp).2.1
 have hle := pagesF_le k l
 have hn : n < l.length := by have := (usedF_iff k l n).1 hu; omega
 have hst : ∀ w, Calls Tryz.prog 159 #[.agg #[.int .i64 k, .int .i64 d, .int .i64 x, .string (str l)], .int .i64 n, .int .u8 2] w fun e w' => e = .returned (.agg #[.int .i64 k, .int .i64 d, .int .i64 x, .string (str (l.set n 2))]) ∧ Below w.heap.size w w' := fun w => set_any k d x l n 2 w hn hl
 rw [hu] at hug
 generalize hs : str l = s at hpg hug hst ⊢
 generalize hs2 : str (l.set n 2) = s2 at hst ⊢
 clear hs hs2 hlen hle hn
 have hp' : ((pagesF k l : Int) == 0) = false := by simp; exact hp
 have d2 : decide ((n : Int) < 2) = false := by simp; omega
 go_enter Tryz.func78, Tryz.ntmps78
 go_wp2_with fail
 refine (hpg _).mono ?_
 rintro e w1 ⟨rfl, hb1⟩
 have blk1 := blk2_below hb1
 have hbw1 := below_tr (below_al (below_al (Below.refl _ w) _) _) hb1
 have hc1 := blk_cell blk1.1
 have hf1 := blk_free blk1.1
 have hsz1 := lt_of_block blk1.1
 have hd1 := blk_cell blk1.2
 have hg1 := blk_free blk1.2
 have hsy1 := lt_of_block blk1.2
 clear hb1
 clear hpg
 go_wp2_with fail
 refine (hug _).mono ?_
 rintro e w2 ⟨rfl, hb2⟩
 have blk2 : w2.heap[w.heap.size]? = _ ∧ w2.heap[w.heap.size + 1]? = _ := ⟨blk_keep blk1.1 hb2, blk_keep blk1.2 hb2⟩
 have hbw2 := below_tr hbw1 hb2
 clear hc1 hf1 hsz1 hd1 hg1 hsy1 hbw1 blk1
 have hc2 := blk_cell blk2.1
 have hf2 := blk_free blk2.1
 have hsz2 := lt_of_block blk2.1
 have hd2 := blk_cell blk2.2
 have hg2 := blk_free blk2.2
 have hsy2 := lt_of_block blk2.2
 clear hb2
 clear hug
 go_wp2_with fail
 refine (hst _).mono ?_
 rintro e w3 ⟨rfl, hb3⟩
 have blk3 : w3.heap[w.heap.size]? = _ ∧ w3.heap[w.heap.size + 1]? = _ := ⟨blk_keep blk2.1 hb3, blk_keep blk2.2 hb3⟩
 have hbw3 := below_tr hbw2 hb3
 clear hc2 hf2 hsz2 hd2 hg2 hsy2 hbw2 blk2
 have hc3 := blk_cell blk3.1
 have hf3 := blk_free blk3.1
 have hsz3 := lt_of_block blk3.1
 have hd3 := blk_cell blk3.2
 have hg3 := blk_free blk3.2
 have hsy3 := lt_of_block blk3.2
 clear hb3
 clear hst
 go_wp2
 refine bodyPost_ret (v := .tuple #[.agg #[.int .i64 k, .int .i64 d, .int .i64 x, .string s2], .int .i64 0]) (by simp [results, Tryz.results78, go_sem, hd3]) rfl ⟨rfl, ?_⟩
 exact below_set (below_set (below_set (below_set hbw3 (Nat.le_succ _)) (Nat.le_succ _)) (Nat.le_succ _)) (Nat.le_succ _)
end Go.Proofs.YtijhamllnnilbaaGreatDoor.Sp
namespace Go.Proofs.YtijhamllnnilbaaGreatDoor.Gr
open Go.RowKit Go.Proofs.YtijhamllnnilbaaGreatDoor.Mem Go.Proofs.YtijhamllnnilbaaGreatDoor.Pg Go.Proofs.YtijhamllnnilbaaGreatDoor.Kp Go.Proofs.YtijhamllnnilbaaGreatDoor.Sp
set_option linter.unusedSimpArgs false
set_option linter.unusedVariables false

structure MapPage (n : Nat) (dead : Int) (B : Nat → List UInt8) (M : Int → Option (List UInt8)) (d x : Int) (l : List UInt8) : Prop where
 seen : ∃ b, seen n dead B M 1 = (b, 0) ∧ Shows b ⟨2, d, x, l⟩
theorem Grp.setTk {w : World} {gb mb sb : Nat} {M : Int → Option (List UInt8)} {tk : Int} (h : Grp w gb mb sb M tk) (tk' : Int) : Grp (w.setCell ⟨gb, 2, none⟩ (.int .i64 tk')) gb mb sb M tk' :=
 ⟨heap_setCell_same w gb 2 _ _ (.int .i64 tk') h.grp, h.map.block (heap_setCell_other _ _ _ _ h.ne.symm)⟩
theorem Tab.setCell {w : World} (h : Tab w) {g j : Nat} {u : Value} (hg : gtab ≠ g) : Tab (w.setCell ⟨g, j, none⟩ u) := h.of_block (heap_setCell_other _ _ _ _ hg)
theorem wf1 : (Lit.int .i64 1).wf = true := by decide
theorem MapPage.ok {n : Nat} {dead : Int} {B : Nat → List UInt8} {M : Int → Option (List UInt8)} {d x : Int} {l : List UInt8} (h : MapPage n dead B M d x l) : Pag.ok ⟨2, d, x, l⟩ := by
 obtain ⟨b, _, hs⟩ := h.seen
 exact hs.ok
theorem MapPage.len {n : Nat} {dead : Int} {B : Nat → List UInt8} {M : Int → Option (List UInt8)} {d x : Int} {l : List UInt8} (h : MapPage n dead B M d x l) : l.length = 240 := h.ok.2.2.2.2.2.2
theorem mapGet {w : World} {gb mb sb qb n c : Nat} {dead : Int} {B : Nat → List UInt8} {M : Int → Option (List UInt8)} {tk d x : Int} {l : List UInt8} (ht : Tab w) (hs : Sto w sb qb n c dead B) (hg : Grp w gb mb sb M tk) (hm : MapPage n dead B M d x l) :
 Calls Tryz.prog 64 #[.pointer (some ⟨gb, 0, none⟩), .int .i64 1] w fun e w' => e = .returned (.tuple #[.agg #[.int .i64 2, .int .i64 d, .int .i64 x, .string (str l)], .int .i64 0]) ∧ Below w.heap.size w w' := by
 obtain ⟨b, h1, h2⟩ := hm.seen
 exact gget_any w gb mb sb qb n c dead B M tk 1 wf1 ht hs hg b _ h1 h2

set_option maxRecDepth 100000 in
set_option maxHeartbeats 2000000 in
theorem gfree_any (w : World) (gb mb sb qb n c : Nat) (dead : Int) (B : Nat → List UInt8) (M : Int → Option (List UInt8)) (tk d x : Int) (l : List UInt8) (ht : Tab w) (hs : Sto w sb qb n c dead B) (hg : Grp w gb mb sb M tk) (hm : MapPage n dead B M d x l) :
 Calls Tryz.prog 29 #[.pointer (some ⟨gb, 0, none⟩)] w fun e w' => e = .returned (.int .i64 ((l.take (pagesF 2 l)).count 2 : Nat)) ∧ Below w.heap.size w w' := by
 have hget := mapGet ht hs hg hm
 have hfr := fun W => free_any 2 d x l W (by have := hm.len; omega)
 obtain ⟨T, hT⟩ : ∃ T, T = str l := ⟨_, rfl⟩
 rw [← hT] at hget hfr
 generalize (l.take (pagesF 2 l)).count 2 = q at *
 clear ht hs hg hm hT
 go_enter Tryz.func29, Tryz.ntmps29
 go_wp2_with fail
 with_reducible refine hget.mono ?_
 rintro e w1 ⟨rfl, hb1⟩
 have q3 := heap_alloc_new w1 (.cells #[.int .i64 2, .int .i64 d, .int .i64 x, .string T] 113)
 have c3 := blk_cell q3
 have hbb := below_al hb1 (.cells #[.int .i64 2, .int .i64 d, .int .i64 x, .string T] 113)
 clear q3 hb1
 go_wp2_with fail
 with_reducible refine (hfr _).mono ?_
 rintro e w2 ⟨rfl, hb2⟩
 have hbc := below_tr hbb hb2
 go_wp2_with fail
 go_ret
 exact ⟨rfl, hbc⟩

set_option maxRecDepth 100000 in
set_option maxHeartbeats 4000000 in
theorem gtake_ok (w : World) (gb mb sb qb n c : Nat) (dead : Int) (B : Nat → List UInt8) (M : Int → Option (List UInt8)) (tk d x : Int) (l : List UInt8) (ht : Tab w) (hs : Sto w sb qb n c dead B) (hg : Grp w gb mb sb M tk) (hm : MapPage n dead B M d x l) (i : Nat) (hi : takeI 2 l = i) (hip : i < pagesF 2 l) (hk : -1000000 ≤ tk ∧ tk ≤ 1000000) (hgt : gtab < gb ∧ gtab < mb) :
 Calls Tryz.prog 73 #[.pointer (some ⟨gb, 0, none⟩)] w fun e w' => e = .returned (.tuple #[.int .i64 i, .int .i64 0]) ∧ Grp w' gb mb sb (upd M 1 (Pag.bytes ⟨2, d, x, l.set i 1⟩)) (tk + 1) ∧ Keep (fun j => j = gb ∨ j = mb) w w' := by
 have hget := mapGet ht hs hg hm
 have htk := fun W => take_ok 2 d x l W (by have := hm.len; omega) i hi hip
 have hok : Pag.ok ⟨2, d, x, l.set i 1⟩ := by
  obtain ⟨a1, a2, a3, a4, a5, a6, a7⟩ := hm.ok
  exact Pag.ok_mk ⟨a1, a2⟩ ⟨a3, a4⟩ ⟨a5, a6⟩ (by simpa using a7)
 have hput := fun W tk' (t : Tab W) (g : Grp W gb mb sb M tk') => gput_ok W gb mb sb M tk' 1 ⟨2, d, x, l.set i 1⟩ t g hok (by omega) (by omega)
 simp only [Pag.v] at hput
 obtain ⟨T, hT⟩ : ∃ T, T = str l := ⟨_, rfl⟩
 obtain ⟨U, hU⟩ : ∃ U, U = str (l.set i 1) := ⟨_, rfl⟩
 rw [← hT] at hget htk
 rw [← hU] at htk hput
 obtain ⟨M', hM'⟩ : ∃ M', M' = upd M 1 (Pag.bytes ⟨2, d, x, l.set i 1⟩) := ⟨_, rfl⟩
 rw [← hM'] at hput ⊢
 have Hg := Lib.hid hg
 have Ht := Lib.hid ht
 have Hne := Lib.hid hg.ne
 have Hgt := Lib.hid hgt
 have i1 : IntKind.i64.wrap (tk + 1) = tk + 1 := IntWalk.i64_in _ (by omega)
 clear ht hs hg hm hT hU hM' hi hip hok hgt hk
 go_enter Tryz.func73, Tryz.ntmps73
 go_wp2_with fail
 with_reducible refine hget.mono ?_
 rintro e w1 ⟨rfl, hb1⟩
 have q6 := heap_alloc_new w1 (.cells #[.int .i64 2, .int .i64 d, .int .i64 x, .string T] 113)
 have c6 := blk_cell q6
 have hbb := below_al hb1 (.cells #[.int .i64 2, .int .i64 d, .int .i64 x, .string T] 113)
 clear q6 hb1 hget
 go_wp2_with fail
 with_reducible refine (htk _).mono ?_
 rintro e w2 ⟨rfl, hb2⟩
 have hbc := below_al (below_tr hbb hb2) (.cells #[.int .i64 2, .int .i64 d, .int .i64 x, .string U] 113)
 have q8 := heap_alloc_new w2 (.cells #[.int .i64 2, .int .i64 d, .int .i64 x, .string U] 113)
 have hsz : w.heap.size ≤ w2.heap.size := by have := hbb.size; have := hb2.size; simp at *; omega
 obtain ⟨w3, hw3⟩ : ∃ w3, w3 = w2.alloc (.cells #[.int .i64 2, .int .i64 d, .int .i64 x, .string U] 113) := ⟨_, rfl⟩
 rw [← hw3] at hbc q8
 have g3 := Hg.out.below hbc
 have cg := blk_cell g3.grp
 have fg := blk_free g3.grp
 have zg := g3.lt1
 have c8 := blk_cell q8
 have z8 := lt_of_block q8
 have hne8 : gb ≠ w2.heap.size := by have := Hg.out.lt1; omega
 have hne8' : w2.heap.size ≠ gb := fun e => hne8 e.symm
 have G3 := Lib.hid g3
 have Hbc := Lib.hid hbc
 have T3 := Lib.hid (Ht.out.below hbc)
 clear hbb hb2 c6 htk hbc q8 g3
 rw [hw3] at cg fg zg c8 z8
 have W3 := Lib.hid hw3
 clear hw3
 go_wp2_with fail
 have g4 := G3.out.setTk (tk + 1)
 have t4 := T3.out.setCell (j := 2) (u := .int .i64 (tk + 1)) (show gtab ≠ gb by have := Hgt.out; omega)
 have k4 : Keep (fun j => j = gb ∨ j = mb) w (w3.setCell ⟨gb, 2, none⟩ (.int .i64 (tk + 1))) := (Keep.of_below Hbc.out).setCell (.inl (.inl rfl)) _
 rw [W3.out] at g4 t4 k4
 clear cg fg zg c8 z8
 with_reducible refine (hput _ _ t4 g4).mono ?_
 rintro e w5 ⟨rfl, g5, k5⟩
 clear g4 t4 i1
 go_wp2_with fail
 go_ret2
 exact ⟨rfl, g5, k4.trans (k5.mono (fun j h => .inr h))⟩

set_option maxRecDepth 100000 in
set_option maxHeartbeats 2000000 in
theorem gtake_no (w : World) (gb mb sb qb n c : Nat) (dead : Int) (B : Nat → List UInt8) (M : Int → Option (List UInt8)) (tk d x : Int) (l : List UInt8) (ht : Tab w) (hs : Sto w sb qb n c dead B) (hg : Grp w gb mb sb M tk) (hm : MapPage n dead B M d x l) (hi : takeI 2 l < 0) (hip : pagesF 2 l ≠ 0) :
 Calls Tryz.prog 73 #[.pointer (some ⟨gb, 0, none⟩)] w fun e w' => e = .returned (.tuple #[.int .i64 0, .int .i64 6]) ∧ Below w.heap.size w w' := by
 have hget := mapGet ht hs hg hm
 have htk := fun W => take_disk 2 d x l W (by have := hm.len; omega) hip hi
 obtain ⟨T, hT⟩ : ∃ T, T = str l := ⟨_, rfl⟩
 rw [← hT] at hget htk
 clear ht hs hg hm hT hi hip
 go_enter Tryz.func73, Tryz.ntmps73
 go_wp2_with fail
 with_reducible refine hget.mono ?_
 rintro e w1 ⟨rfl, hb1⟩
 have q6 := heap_alloc_new w1 (.cells #[.int .i64 2, .int .i64 d, .int .i64 x, .string T] 113)
 have c6 := blk_cell q6
 have hbb := below_al hb1 (.cells #[.int .i64 2, .int .i64 d, .int .i64 x, .string T] 113)
 clear q6 hb1 hget
 go_wp2_with fail
 with_reducible refine (htk _).mono ?_
 rintro e w2 ⟨rfl, hb2⟩
 have hbc := below_al (below_tr hbb hb2) (.cells #[.int .i64 0, .int .i64 0, .int .i64 0, .string ⟨#[]⟩] 113)
 clear c6 htk hbb hb2
 go_wp2_with fail
 go_ret2
 exact ⟨rfl, hbc⟩

set_option maxRecDepth 100000 in
set_option maxHeartbeats 4000000 in
theorem ggive_ok (w : World) (gb mb sb qb n c : Nat) (dead : Int) (B : Nat → List UInt8) (M : Int → Option (List UInt8)) (tk d x : Int) (l : List UInt8) (ht : Tab w) (hs : Sto w sb qb n c dead B) (hg : Grp w gb mb sb M tk) (hm : MapPage n dead B M d x l) (i : Nat) (hi : 2 ≤ i) (hip : usedF 2 l i = true) (hk : -1000000 ≤ tk ∧ tk ≤ 1000000) (hgt : gtab < gb ∧ gtab < mb) :
 Calls Tryz.prog 28 #[.pointer (some ⟨gb, 0, none⟩), .int .i64 i] w fun e w' => e = .returned (.int .i64 0) ∧ Grp w' gb mb sb (upd M 1 (Pag.bytes ⟨2, d, x, l.set i 2⟩)) (tk - 1) ∧ Keep (fun j => j = gb ∨ j = mb) w w' := by
 have hget := mapGet ht hs hg hm
 have htk := fun W => give_ok 2 d x i l W (by have := hm.len; omega) hi hip
 have hok : Pag.ok ⟨2, d, x, l.set i 2⟩ := by
  obtain ⟨a1, a2, a3, a4, a5, a6, a7⟩ := hm.ok
  exact Pag.ok_mk ⟨a1, a2⟩ ⟨a3, a4⟩ ⟨a5, a6⟩ (by simpa using a7)
 have hput := fun W tk' (t : Tab W) (g : Grp W gb mb sb M tk') => gput_ok W gb mb sb M tk' 1 ⟨2, d, x, l.set i 2⟩ t g hok (by omega) (by omega)
 simp only [Pag.v] at hput
 obtain ⟨T, hT⟩ : ∃ T, T = str l := ⟨_, rfl⟩
 obtain ⟨U, hU⟩ : ∃ U, U = str (l.set i 2) := ⟨_, rfl⟩
 rw [← hT] at hget htk
 rw [← hU] at htk hput
 obtain ⟨M', hM'⟩ : ∃ M', M' = upd M 1 (Pag.bytes ⟨2, d, x, l.set i 2⟩) := ⟨_, rfl⟩
 rw [← hM'] at hput ⊢
 have Hg := Lib.hid hg
 have Ht := Lib.hid ht
 have Hne := Lib.hid hg.ne
 have Hgt := Lib.hid hgt
 have i1 : IntKind.i64.wrap (tk - 1) = tk - 1 := IntWalk.i64_in _ (by omega)
 clear ht hs hg hm hT hU hM' hi hip hok hgt hk
 go_enter Tryz.func28, Tryz.ntmps28
 go_wp2_with fail
 with_reducible refine hget.mono ?_
 rintro e w1 ⟨rfl, hb1⟩
 have q6 := heap_alloc_new w1 (.cells #[.int .i64 2, .int .i64 d, .int .i64 x, .string T] 113)
 have c6 := blk_cell q6
 have hbb := below_al hb1 (.cells #[.int .i64 2, .int .i64 d, .int .i64 x, .string T] 113)
 clear q6 hb1 hget
 go_wp2_with fail
 with_reducible refine (htk _).mono ?_
 rintro e w2 ⟨rfl, hb2⟩
 have hbc := below_al (below_tr hbb hb2) (.cells #[.int .i64 2, .int .i64 d, .int .i64 x, .string U] 113)
 have q8 := heap_alloc_new w2 (.cells #[.int .i64 2, .int .i64 d, .int .i64 x, .string U] 113)
 have hsz : w.heap.size ≤ w2.heap.size := by have := hbb.size; have := hb2.size; simp at *; omega
 obtain ⟨w3, hw3⟩ : ∃ w3, w3 = w2.alloc (.cells #[.int .i64 2, .int .i64 d, .int .i64 x, .string U] 113) := ⟨_, rfl⟩
 rw [← hw3] at hbc q8
 have g3 := Hg.out.below hbc
 have cg := blk_cell g3.grp
 have fg := blk_free g3.grp
 have zg := g3.lt1
 have c8 := blk_cell q8
 have z8 := lt_of_block q8
 have hne8 : gb ≠ w2.heap.size := by have := Hg.out.lt1; omega
 have hne8' : w2.heap.size ≠ gb := fun e => hne8 e.symm
 have G3 := Lib.hid g3
 have Hbc := Lib.hid hbc
 have T3 := Lib.hid (Ht.out.below hbc)
 clear hbb hb2 c6 htk hbc q8 g3
 rw [hw3] at cg fg zg c8 z8
 have W3 := Lib.hid hw3
 clear hw3
 go_wp2_with fail
 have g4 := G3.out.setTk (tk - 1)
 have t4 := T3.out.setCell (j := 2) (u := .int .i64 (tk - 1)) (show gtab ≠ gb by have := Hgt.out; omega)
 have k4 : Keep (fun j => j = gb ∨ j = mb) w (w3.setCell ⟨gb, 2, none⟩ (.int .i64 (tk - 1))) := (Keep.of_below Hbc.out).setCell (.inl (.inl rfl)) _
 rw [W3.out] at g4 t4 k4
 clear cg fg zg c8 z8
 with_reducible refine (hput _ _ t4 g4).mono ?_
 rintro e w5 ⟨rfl, g5, k5⟩
 clear g4 t4 i1
 go_wp2_with fail
 go_ret
 exact ⟨rfl, g5, k4.trans (k5.mono (fun j h => .inr h))⟩

end Go.Proofs.YtijhamllnnilbaaGreatDoor.Gr
namespace Go.Proofs.YtijhamllnnilbaaGreatDoor.Gr
open Go.RowKit Go.Proofs.YtijhamllnnilbaaGreatDoor.Mem Go.Proofs.YtijhamllnnilbaaGreatDoor.Pg Go.Proofs.YtijhamllnnilbaaGreatDoor.Kp Go.Proofs.YtijhamllnnilbaaGreatDoor.Sp
set_option linter.unusedSimpArgs false
set_option linter.unusedVariables false

theorem info_string : (Tryz.prog.info? 9).map (fun i => (i.zero, i.size, i.bytes)) = some (some (.string ⟨#[]⟩), 1, 16) := by kernel_rfl
theorem own_set {w : World} {base k j n : Nat} {e : TypeId} {size : Nat} {v u : Value} {xs : List Value} (h : w.ownsRow base e size v n xs) (hk : k < base) : (w.setCell ⟨k, j, none⟩ u).ownsRow base e size v n xs := by
 refine ⟨h.1, ?_⟩
 rcases h.2 with h2 | ⟨g, cap, cur, h1, h2, h3, h4⟩
 · exact .inl h2
 · exact .inr ⟨g, cap, cur, h1, h2, (heap_setCell_other _ _ _ _ (show g ≠ k by omega)).trans h3, h4⟩
abbrev sto (v : Value) : Obj := .cells #[v, .int .i64 (-1)] 115 (0, 0)
def B0 (n i : Nat) : List UInt8 := if i = 1 then Pag.bytes ⟨2, 0, 0, newL n⟩ else zs 256
theorem B0_len (n i : Nat) : (B0 n i).length = 256 := by
 unfold B0
 split
 · exact Pag.bytes_len (Pag.ok_mk (by omega) (by omega) (by omega) (newL_len n))
 · exact zs_len 256
theorem newPage_ok (n : Nat) : Pag.ok ⟨2, 0, 0, newL n⟩ := Pag.ok_mk (by omega) (by omega) (by omega) (newL_len n)

set_option maxRecDepth 100000 in
set_option maxHeartbeats 4000000 in
theorem snew_any (n : Nat) (w : World) (ht : Tab w) (h8 : 8 ≤ n) (h64 : n ≤ 64) :
 Calls Tryz.prog 47 #[.int .i64 n] w fun e w' => ∃ sb qb c, e = .returned (.pointer (some ⟨sb, 0, none⟩)) ∧ w.heap.size ≤ sb ∧ w.heap.size ≤ qb ∧ Below w.heap.size w w' ∧ Sto w' sb qb n c (-1) (B0 n) := by
 have hz : ∀ w, Calls Tryz.prog 23 #[.int .i64 256] w fun e w' => e = .returned (.string (str (zs 256))) ∧ Below w.heap.size w w' := fun w => refZeros_any 256 w (by omega)
 have hnew := fun w => new_ok n w h8 h64
 have hput := fun W (k : Tab W) => put_yes ⟨2, 0, 0, newL n⟩ W k (newPage_ok n)
 simp only [Pag.v] at hput
 obtain ⟨Z, hZ⟩ : ∃ Z, Z = str (zs 256) := ⟨_, rfl⟩
 obtain ⟨P, hP⟩ : ∃ P, P = str (Pag.bytes ⟨2, 0, 0, newL n⟩) := ⟨_, rfl⟩
 obtain ⟨T, hT⟩ : ∃ T, T = str (newL n) := ⟨_, rfl⟩
 rw [← hZ] at hz
 rw [← hP, ← hT] at hput
 rw [← hT] at hnew
 have HZ := Lib.hid hZ
 have HP := Lib.hid hP
 obtain ⟨i0, hif, hz0, hz1, hz2⟩ := info_parts info_string
 have k3 : (w.alloc (.cells #[.slice none 0 0, .int .i64 (-1)] 115)).heap[w.heap.size]? = some (sto (.slice none 0 0)) := heap_alloc_new w _
 have b3 := below_al (Below.refl _ w) (.cells #[.slice none 0 0, .int .i64 (-1)] 115)
 have o3 : (w.alloc (.cells #[.slice none 0 0, .int .i64 (-1)] 115)).ownsRow (w.heap.size + 1) 9 1 (.slice none 0 0) 0 [] := World.ownsRow_nil _ _ _ _
 have HT0 := Lib.hid ht
 clear hZ hP hT ht
 go_enter Tryz.func47, Tryz.ntmps47
 go_wp2_with fail
 go_loopw [4] (fun i wr => ∃ (j : Nat) (v : Value), i = .int .i64 j ∧ j ≤ n ∧ wr.heap[w.heap.size]? = some (sto v) ∧ wr.ownsRow (w.heap.size + 1) 9 1 v j (List.replicate j (.string Z)) ∧ Below w.heap.size w wr) (fun i _ => n - (intOf i).toNat)
 case atStart => exact ⟨0, _, rfl, Nat.zero_le _, k3, o3, b3⟩
 case round =>
  clear k3 o3 b3
  obtain ⟨j, v, rfl, hj, k3, o3, b3⟩ := hrel
  have c3 := blk_cell k3
  have f3 := blk_free k3
  have z3 := lt_of_block k3
  by_cases hlt : j < n
  · have d1 : decide ((j : Int) < (n : Int)) = true := by simpa using hlt
    have d2 : decide (j < n) = true := by simpa using hlt
    go_wp2_with fail
    go_region_law (first | (go_simp; go_at_call 23; with_reducible refine (hz _).mono ?_; rintro e w2 ⟨rfl, hb2⟩; have k4 := blk_keep (w := wr.drew) k3 hb2; have c4 := blk_cell k4; have z4 := lt_of_block k4; have f4 := blk_free k4; have o4 := own_below o3.drew hb2) | (refine step_append_lies _ (by rfl) _ _ _ (by rfl) (w.heap.size + 1) 9 i0 _ 1 16 Tryz.underlying22 hif hz0 hz1 hz2 rfl (by omega) v j (List.replicate j (.string Z)) (by rfl) (o4.alloc _) ⟨w2.heap.size, 0, none⟩ 1 1 [.string Z] (by rfl) (by rfl) (cells_one _ _ _) (by simp [Value.oneCell']) (by omega) (by unfold maxLen; omega) (by omega) (by simp; omega) _ rfl ?_; intro g1 cap1 w4 own1 hgr1 hat1 hlt1; have k6 := keep_grown o4 hgr1 (Nat.lt_succ_self _) (hal k4); have c6 := blk_cell k6; have f6 := blk_free k6; have z6 := lt_of_block k6))
    all_goals
     have b2 := below_base (a := wr.drew) (below_dr b3) b3.size hb2
     have b6 := below_grown (below_al b2 (.cells #[.string Z] 9)) (by have := b2.size; simp; omega) (row_mono o4 (Nat.le_succ _)) hgr1
     have i1 : IntKind.i64.wrap ((j : Int) + 1) = (j : Int) + 1 := IntWalk.i64_in _ (by omega)
     go_wp2_with fail
     refine ⟨⟨j + 1, _, by go_num, by omega, heap_setCell_same _ _ 0 _ _ _ k6, ?_, below_set b6 (Nat.le_refl _)⟩, ?_⟩
     · rw [show List.replicate (j + 1) (Value.string Z) = List.replicate j (Value.string Z) ++ [Value.string Z] from List.replicate_succ']
       exact own_set own1 (Nat.lt_succ_self _)
     · clear i1
       simp [intOf]
       omega
  · obtain rfl : j = n := by omega
    have d1 : decide ((j : Int) < (j : Int)) = false := by simp
    have d3 : decide ((1 : Int) < (j : Int)) = true := by simp; omega
    have d3' : decide (1 < j) = true := by simp; omega
    obtain ⟨g, cap, cur, rfl, hgB, hblk, hcap, hcl⟩ : ∃ g cap cur, v = .slice (some ⟨g, 0, none⟩) j cap ∧ w.heap.size + 1 ≤ g ∧ wr.heap[g]? = some (.cells cur 9 (0, 0)) ∧ j ≤ cur.size ∧ ∀ i, i < j → cur[i]? = some (.string Z) := by
     rcases o3.2 with ⟨_, h⟩ | ⟨g, cap, cur, h1, h2, h3, h4, _, h5, h6⟩
     · omega
     · refine ⟨g, cap, cur, h1, h2, h3, by omega, fun i hi => ?_⟩
       have h7 : (cur.toList.take (j * 1))[i]? = some (.string Z) := by rw [h6, List.getElem?_replicate, if_pos hi]
       rw [List.getElem?_take_of_lt (by omega)] at h7
       simpa using h7
    have Hcl := Lib.hid hcl
    have zq := lt_of_block hblk
    have tr := HT0.out.below b3
    clear o3 hcl
    go_wp2_with fail
    with_reducible refine (hnew _).mono ?_
    rintro e w2 ⟨rfl, hb2⟩
    have hgz : g < w2.heap.size := Nat.lt_of_lt_of_le zq hb2.size
    have k4 := hal (o := .cells #[.int .i64 2, .int .i64 0, .int .i64 0, .string T] 113) (blk_keep k3 hb2)
    have kq := hal (o := .cells #[.int .i64 2, .int .i64 0, .int .i64 0, .string T] 113) (blk_keep hblk hb2)
    have kp := heap_alloc_new w2 (.cells #[.int .i64 2, .int .i64 0, .int .i64 0, .string T] 113)
    have b4 := below_al (below_base b3 b3.size hb2) (.cells #[.int .i64 2, .int .i64 0, .int .i64 0, .string T] 113)
    have c4 := blk_cell k4
    have z4 := lt_of_block k4
    have cq := blk_cell kq
    have zq4 := lt_of_block kq
    have cp := blk_cell kp
    have zp := lt_of_block kp
    have T4 := Lib.hid (HT0.out.below b4).drew
    clear c3 f3 z3 k3 hblk zq b3 hb2 tr
    go_wp2_with fail
    have hne1 : g ≠ w.heap.size := by omega
    have hne2 : g ≠ w2.heap.size := by omega
    have h1j : (1 : Int) < (j : Int) := by omega
    generalize hw5 : w2.alloc (.cells #[.int .i64 2, .int .i64 0, .int .i64 0, .string T] 113) = w5 at *
    go_region_law (go_simp; go_at_call 48; with_reducible refine (hput _ T4.out).mono ?_; rintro e w6 ⟨rfl, hb6⟩; have k6 := blk_keep (w := w5.drew) k4 hb6; have q6 := blk_keep (w := w5.drew) kq hb6; have c6 := blk_cell k6; have z6 := lt_of_block k6; have x6 := (blk_cell q6 1).trans (Hcl.out 1 (by omega)); have f6 := blk_free q6 1; have y6 := lt_of_block q6)
    all_goals
     have b6 := below_base (a := w5.drew) (below_dr b4) b4.size hb6
     go_wp2_with fail
     go_ret
     refine ⟨w.heap.size, g, cap, rfl, Nat.le_refl _, by omega, below_set b6 (by omega), ⟨?_, ⟨_, heap_setCell_same _ _ 1 _ _ _ q6, fun i hi => ?_⟩, by omega, by omega, fun i hi => by rw [B0_len]; omega⟩⟩
     · exact (heap_setCell_other _ _ _ _ (Ne.symm hne1)).trans k6
     · by_cases h1 : i = 1
       · subst h1
         rw [Array.getElem?_setIfInBounds, if_pos rfl, if_pos (by omega), HP.out]
         rfl
       · rw [Array.getElem?_setIfInBounds, if_neg (by omega), Hcl.out i hi, HZ.out, B0, if_neg h1]
end Go.Proofs.YtijhamllnnilbaaGreatDoor.Gr
