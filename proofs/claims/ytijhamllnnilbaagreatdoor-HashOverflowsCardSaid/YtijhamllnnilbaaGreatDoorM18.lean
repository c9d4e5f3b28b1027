/- Lemmas of the claim, in their order:
- The contracts of a group's Take, Give, Free.
-/
import Derived.Test.YtijhamllnnilbaaGreatDoorM15
import Derived.Test.YtijhamllnnilbaaGreatDoorM17
import Derived.Test.YtijhamllnnilbaaGreatDoorM09
set_option linter.unusedVariables false
set_option linter.unusedSimpArgs false
namespace Go.Proofs.YtijhamllnnilbaaGreatDoor.Gr
open Go.RowKit Go.Proofs.YtijhamllnnilbaaGreatDoor.Mem Go.Proofs.YtijhamllnnilbaaGreatDoor.Pg Go.Proofs.YtijhamllnnilbaaGreatDoor.Kp Go.Proofs.YtijhamllnnilbaaGreatDoor.Sp
set_option linter.unusedSimpArgs false
set_option linter.unusedVariables false

/-- The group's map page is one of m pages: its bytes l, its depth, the next one. -/
structure MapPage (n : Nat) (dead : Int) (B : Nat → List UInt8) (M : Int → Option (List UInt8)) (d x : Int) (l : List UInt8) : Prop where
  seen : ∃ b, seen n dead B M 1 = (b, 0) ∧ Shows b ⟨2, d, x, l⟩
theorem Grp.setTk {w : World} {gb mb sb : Nat} {M : Int → Option (List UInt8)} {tk : Int} (h : Grp w gb mb sb M tk) (tk' : Int) : Grp (w.setCell ⟨gb, 2, none⟩ (.int .i64 tk')) gb mb sb M tk' :=
  ⟨heap_setCell_same w gb 2 _ _ (.int .i64 tk') h.grp, h.map.block (heap_setCell_other _ _ _ _ h.ne.symm)⟩
theorem Tab.setCell {w : World} (h : Tab w) {g j : Nat} {u : Value} (hg : gtab ≠ g) : Tab (w.setCell ⟨g, j, none⟩ u) := h.of_block (heap_setCell_other _ _ _ _ hg)
theorem wf1 : (Lit.int .i64 1).wf = true := by decide
theorem MapPage.ok {n : Nat} {dead : Int} {B : Nat → List UInt8} {M : Int → Option (List UInt8)} {d x : Int} {l : List UInt8} (h : MapPage n dead B M d x l) : Pag.ok ⟨2, d, x, l⟩ := by
  obtain ⟨b, _, hs⟩ := h.seen
  exact hs.ok
theorem MapPage.len {n : Nat} {dead : Int} {B : Nat → List UInt8} {M : Int → Option (List UInt8)} {d x : Int} {l : List UInt8} (h : MapPage n dead B M d x l) : l.length = 240 := h.ok.2.2.2.2.2.2
/-- Put: the map page is another one. -/
theorem MapPage.put (n : Nat) (dead : Int) (B : Nat → List UInt8) (M : Int → Option (List UInt8)) {p : Pag} (hp : p.ok) (hk : p.k = 2) : MapPage n dead B (upd M 1 p.bytes) p.d p.x p.l := by
  refine ⟨p.bytes, ?_, .inl ⟨?_, ?_⟩⟩
  · unfold Gr.seen; rw [upd_same]
  · cases p; simp only at hk; subst hk; exact hp
  · cases p; simp only at hk; subst hk; rfl
theorem mapGet {w : World} {gb mb sb qb n c : Nat} {dead : Int} {B : Nat → List UInt8} {M : Int → Option (List UInt8)} {tk d x : Int} {l : List UInt8} (ht : Tab w) (hs : Sto w sb qb n c dead B) (hg : Grp w gb mb sb M tk) (hm : MapPage n dead B M d x l) :
    Calls Tryz.prog 64 #[.pointer (some ⟨gb, 0, none⟩), .int .i64 1] w fun e w' => e = .returned (.tuple #[.agg #[.int .i64 2, .int .i64 d, .int .i64 x, .string (str l)], .int .i64 0]) ∧ Below w.heap.size w w' := by
  obtain ⟨b, h1, h2⟩ := hm.seen
  exact gget_any w gb mb sb qb n c dead B M tk 1 wf1 ht hs hg b _ h1 h2

set_option maxRecDepth 100000 in
set_option maxHeartbeats 2000000 in
theorem gfree_any (w : World) (gb mb sb qb n c : Nat) (dead : Int) (B : Nat → List UInt8) (M : Int → Option (List UInt8)) (tk d x : Int) (l : List UInt8) (ht : Tab w) (hs : Sto w sb qb n c dead B) (hg : Grp w gb mb sb M tk) (hm : MapPage n dead B M d x l) :
    Calls Tryz.prog 29 #[.pointer (some ⟨gb, 0, none⟩)] w fun e w' => e = .returned (.int .i64 ((l.take (pagesF 2 l)).count 2 : Nat)) ∧ Below w.heap.size w w' := by
  have hget := mapGet ht hs hg hm
  have hfr := fun W => free_any 2 d x l W (by have := hm.len; omega)
  obtain ⟨T, hT⟩ : ∃ T, T = str l := ⟨_, rfl⟩
  rw [← hT] at hget hfr
  generalize (l.take (pagesF 2 l)).count 2 = q at *
  clear ht hs hg hm hT
  go_enter Tryz.func29, Tryz.ntmps29
  go_wp2_with fail
  with_reducible refine hget.mono ?_
  rintro e w1 ⟨rfl, hb1⟩
  have q3 := heap_alloc_new w1 (.cells #[.int .i64 2, .int .i64 d, .int .i64 x, .string T] 113)
  have c3 := blk_cell q3
  have hbb := below_al hb1 (.cells #[.int .i64 2, .int .i64 d, .int .i64 x, .string T] 113)
  clear q3 hb1
  go_wp2_with fail
  with_reducible refine (hfr _).mono ?_
  rintro e w2 ⟨rfl, hb2⟩
  have hbc := below_tr hbb hb2
  go_wp2_with fail
  go_ret
  exact ⟨rfl, hbc⟩

set_option maxRecDepth 100000 in
set_option maxHeartbeats 4000000 in
theorem gtake_ok (w : World) (gb mb sb qb n c : Nat) (dead : Int) (B : Nat → List UInt8) (M : Int → Option (List UInt8)) (tk d x : Int) (l : List UInt8) (ht : Tab w) (hs : Sto w sb qb n c dead B) (hg : Grp w gb mb sb M tk) (hm : MapPage n dead B M d x l) (i : Nat) (hi : takeI 2 l = i) (hip : i < pagesF 2 l) (hk : -1000000 ≤ tk ∧ tk ≤ 1000000) (hgt : gtab < gb ∧ gtab < mb) :
    Calls Tryz.prog 73 #[.pointer (some ⟨gb, 0, none⟩)] w fun e w' => e = .returned (.tuple #[.int .i64 i, .int .i64 0]) ∧ Grp w' gb mb sb (upd M 1 (Pag.bytes ⟨2, d, x, l.set i 1⟩)) (tk + 1) ∧ Keep (fun j => j = gb ∨ j = mb) w w' := by
  have hget := mapGet ht hs hg hm
  have htk := fun W => take_ok 2 d x l W (by have := hm.len; omega) i hi hip
  have hok : Pag.ok ⟨2, d, x, l.set i 1⟩ := by
    obtain ⟨a1, a2, a3, a4, a5, a6, a7⟩ := hm.ok
    exact Pag.ok_mk ⟨a1, a2⟩ ⟨a3, a4⟩ ⟨a5, a6⟩ (by simpa using a7)
  have hput := fun W tk' (t : Tab W) (g : Grp W gb mb sb M tk') => gput_ok W gb mb sb M tk' 1 ⟨2, d, x, l.set i 1⟩ t g hok (by omega) (by omega)
  simp only [Pag.v] at hput
  obtain ⟨T, hT⟩ : ∃ T, T = str l := ⟨_, rfl⟩
  obtain ⟨U, hU⟩ : ∃ U, U = str (l.set i 1) := ⟨_, rfl⟩
  rw [← hT] at hget htk
  rw [← hU] at htk hput
  obtain ⟨M', hM'⟩ : ∃ M', M' = upd M 1 (Pag.bytes ⟨2, d, x, l.set i 1⟩) := ⟨_, rfl⟩
  rw [← hM'] at hput ⊢
  have Hg := Lib.hid hg
  have Ht := Lib.hid ht
  have Hne := Lib.hid hg.ne
  have Hgt := Lib.hid hgt
  have i1 : IntKind.i64.wrap (tk + 1) = tk + 1 := IntWalk.i64_in _ (by omega)
  clear ht hs hg hm hT hU hM' hi hip hok hgt hk
  go_enter Tryz.func73, Tryz.ntmps73
  go_wp2_with fail
  with_reducible refine hget.mono ?_
  rintro e w1 ⟨rfl, hb1⟩
  have q6 := heap_alloc_new w1 (.cells #[.int .i64 2, .int .i64 d, .int .i64 x, .string T] 113)
  have c6 := blk_cell q6
  have hbb := below_al hb1 (.cells #[.int .i64 2, .int .i64 d, .int .i64 x, .string T] 113)
  clear q6 hb1 hget
  go_wp2_with fail
  with_reducible refine (htk _).mono ?_
  rintro e w2 ⟨rfl, hb2⟩
  have hbc := below_al (below_tr hbb hb2) (.cells #[.int .i64 2, .int .i64 d, .int .i64 x, .string U] 113)
  have q8 := heap_alloc_new w2 (.cells #[.int .i64 2, .int .i64 d, .int .i64 x, .string U] 113)
  have hsz : w.heap.size ≤ w2.heap.size := by have := hbb.size; have := hb2.size; simp at *; omega
  obtain ⟨w3, hw3⟩ : ∃ w3, w3 = w2.alloc (.cells #[.int .i64 2, .int .i64 d, .int .i64 x, .string U] 113) := ⟨_, rfl⟩
  rw [← hw3] at hbc q8
  have g3 := Hg.out.below hbc
  have cg := blk_cell g3.grp
  have fg := blk_free g3.grp
  have zg := g3.lt1
  have c8 := blk_cell q8
  have z8 := lt_of_block q8
  have hne8 : gb ≠ w2.heap.size := by have := Hg.out.lt1; omega
  have hne8' : w2.heap.size ≠ gb := fun e => hne8 e.symm
  have G3 := Lib.hid g3
  have Hbc := Lib.hid hbc
  have T3 := Lib.hid (Ht.out.below hbc)
  clear hbb hb2 c6 htk hbc q8 g3
  rw [hw3] at cg fg zg c8 z8
  have W3 := Lib.hid hw3
  clear hw3
  go_wp2_with fail
  have g4 := G3.out.setTk (tk + 1)
  have t4 := T3.out.setCell (j := 2) (u := .int .i64 (tk + 1)) (show gtab ≠ gb by have := Hgt.out; omega)
  have k4 : Keep (fun j => j = gb ∨ j = mb) w (w3.setCell ⟨gb, 2, none⟩ (.int .i64 (tk + 1))) := (Keep.of_below Hbc.out).setCell (.inl (.inl rfl)) _
  rw [W3.out] at g4 t4 k4
  clear cg fg zg c8 z8
  with_reducible refine (hput _ _ t4 g4).mono ?_
  rintro e w5 ⟨rfl, g5, k5⟩
  clear g4 t4 i1
  go_wp2_with fail
  go_ret2
  exact ⟨rfl, g5, k4.trans (k5.mono (fun j h => .inr h))⟩

set_option maxRecDepth 100000 in
set_option maxHeartbeats 2000000 in
theorem gtake_no (w : World) (gb mb sb qb n c : Nat) (dead : Int) (B : Nat → List UInt8) (M : Int → Option (List UInt8)) (tk d x : Int) (l : List UInt8) (ht : Tab w) (hs : Sto w sb qb n c dead B) (hg : Grp w gb mb sb M tk) (hm : MapPage n dead B M d x l) (hi : takeI 2 l < 0) (hip : pagesF 2 l ≠ 0) :
    Calls Tryz.prog 73 #[.pointer (some ⟨gb, 0, none⟩)] w fun e w' => e = .returned (.tuple #[.int .i64 0, .int .i64 6]) ∧ Below w.heap.size w w' := by
  have hget := mapGet ht hs hg hm
  have htk := fun W => take_disk 2 d x l W (by have := hm.len; omega) hip hi
  obtain ⟨T, hT⟩ : ∃ T, T = str l := ⟨_, rfl⟩
  rw [← hT] at hget htk
  clear ht hs hg hm hT hi hip
  go_enter Tryz.func73, Tryz.ntmps73
  go_wp2_with fail
  with_reducible refine hget.mono ?_
  rintro e w1 ⟨rfl, hb1⟩
  have q6 := heap_alloc_new w1 (.cells #[.int .i64 2, .int .i64 d, .int .i64 x, .string T] 113)
  have c6 := blk_cell q6
  have hbb := below_al hb1 (.cells #[.int .i64 2, .int .i64 d, .int .i64 x, .string T] 113)
  clear q6 hb1 hget
  go_wp2_with fail
  with_reducible refine (htk _).mono ?_
  rintro e w2 ⟨rfl, hb2⟩
  have hbc := below_al (below_tr hbb hb2) (.cells #[.int .i64 0, .int .i64 0, .int .i64 0, .string ⟨#[]⟩] 113)
  clear c6 htk hbb hb2
  go_wp2_with fail
  go_ret2
  exact ⟨rfl, hbc⟩

set_option maxRecDepth 100000 in
set_option maxHeartbeats 4000000 in
theorem ggive_ok (w : World) (gb mb sb qb n c : Nat) (dead : Int) (B : Nat → List UInt8) (M : Int → Option (List UInt8)) (tk d x : Int) (l : List UInt8) (ht : Tab w) (hs : Sto w sb qb n c dead B) (hg : Grp w gb mb sb M tk) (hm : MapPage n dead B M d x l) (i : Nat) (hi : 2 ≤ i) (hip : usedF 2 l i = true) (hk : -1000000 ≤ tk ∧ tk ≤ 1000000) (hgt : gtab < gb ∧ gtab < mb) :
    Calls Tryz.prog 28 #[.pointer (some ⟨gb, 0, none⟩), .int .i64 i] w fun e w' => e = .returned (.int .i64 0) ∧ Grp w' gb mb sb (upd M 1 (Pag.bytes ⟨2, d, x, l.set i 2⟩)) (tk - 1) ∧ Keep (fun j => j = gb ∨ j = mb) w w' := by
  have hget := mapGet ht hs hg hm
  have htk := fun W => give_ok 2 d x i l W (by have := hm.len; omega) hi hip
  have hok : Pag.ok ⟨2, d, x, l.set i 2⟩ := by
    obtain ⟨a1, a2, a3, a4, a5, a6, a7⟩ := hm.ok
    exact Pag.ok_mk ⟨a1, a2⟩ ⟨a3, a4⟩ ⟨a5, a6⟩ (by simpa using a7)
  have hput := fun W tk' (t : Tab W) (g : Grp W gb mb sb M tk') => gput_ok W gb mb sb M tk' 1 ⟨2, d, x, l.set i 2⟩ t g hok (by omega) (by omega)
  simp only [Pag.v] at hput
  obtain ⟨T, hT⟩ : ∃ T, T = str l := ⟨_, rfl⟩
  obtain ⟨U, hU⟩ : ∃ U, U = str (l.set i 2) := ⟨_, rfl⟩
  rw [← hT] at hget htk
  rw [← hU] at htk hput
  obtain ⟨M', hM'⟩ : ∃ M', M' = upd M 1 (Pag.bytes ⟨2, d, x, l.set i 2⟩) := ⟨_, rfl⟩
  rw [← hM'] at hput ⊢
  have Hg := Lib.hid hg
  have Ht := Lib.hid ht
  have Hne := Lib.hid hg.ne
  have Hgt := Lib.hid hgt
  have i1 : IntKind.i64.wrap (tk - 1) = tk - 1 := IntWalk.i64_in _ (by omega)
  clear ht hs hg hm hT hU hM' hi hip hok hgt hk
  go_enter Tryz.func28, Tryz.ntmps28
  go_wp2_with fail
  with_reducible refine hget.mono ?_
  rintro e w1 ⟨rfl, hb1⟩
  have q6 := heap_alloc_new w1 (.cells #[.int .i64 2, .int .i64 d, .int .i64 x, .string T] 113)
  have c6 := blk_cell q6
  have hbb := below_al hb1 (.cells #[.int .i64 2, .int .i64 d, .int .i64 x, .string T] 113)
  clear q6 hb1 hget
  go_wp2_with fail
  with_reducible refine (htk _).mono ?_
  rintro e w2 ⟨rfl, hb2⟩
  have hbc := below_al (below_tr hbb hb2) (.cells #[.int .i64 2, .int .i64 d, .int .i64 x, .string U] 113)
  have q8 := heap_alloc_new w2 (.cells #[.int .i64 2, .int .i64 d, .int .i64 x, .string U] 113)
  have hsz : w.heap.size ≤ w2.heap.size := by have := hbb.size; have := hb2.size; simp at *; omega
  obtain ⟨w3, hw3⟩ : ∃ w3, w3 = w2.alloc (.cells #[.int .i64 2, .int .i64 d, .int .i64 x, .string U] 113) := ⟨_, rfl⟩
  rw [← hw3] at hbc q8
  have g3 := Hg.out.below hbc
  have cg := blk_cell g3.grp
  have fg := blk_free g3.grp
  have zg := g3.lt1
  have c8 := blk_cell q8
  have z8 := lt_of_block q8
  have hne8 : gb ≠ w2.heap.size := by have := Hg.out.lt1; omega
  have hne8' : w2.heap.size ≠ gb := fun e => hne8 e.symm
  have G3 := Lib.hid g3
  have Hbc := Lib.hid hbc
  have T3 := Lib.hid (Ht.out.below hbc)
  clear hbb hb2 c6 htk hbc q8 g3
  rw [hw3] at cg fg zg c8 z8
  have W3 := Lib.hid hw3
  clear hw3
  go_wp2_with fail
  have g4 := G3.out.setTk (tk - 1)
  have t4 := T3.out.setCell (j := 2) (u := .int .i64 (tk - 1)) (show gtab ≠ gb by have := Hgt.out; omega)
  have k4 : Keep (fun j => j = gb ∨ j = mb) w (w3.setCell ⟨gb, 2, none⟩ (.int .i64 (tk - 1))) := (Keep.of_below Hbc.out).setCell (.inl (.inl rfl)) _
  rw [W3.out] at g4 t4 k4
  clear cg fg zg c8 z8
  with_reducible refine (hput _ _ t4 g4).mono ?_
  rintro e w5 ⟨rfl, g5, k5⟩
  clear g4 t4 i1
  go_wp2_with fail
  go_ret
  exact ⟨rfl, g5, k4.trans (k5.mono (fun j h => .inr h))⟩

set_option maxRecDepth 100000 in
set_option maxHeartbeats 2000000 in
theorem ggive_no (w : World) (gb mb sb qb n c : Nat) (dead : Int) (B : Nat → List UInt8) (M : Int → Option (List UInt8)) (tk d x : Int) (l : List UInt8) (ht : Tab w) (hs : Sto w sb qb n c dead B) (hg : Grp w gb mb sb M tk) (hm : MapPage n dead B M d x l) (i : Int) (hi : i < 2 ∨ usedF 2 l i = false) (hip : pagesF 2 l ≠ 0) :
    Calls Tryz.prog 28 #[.pointer (some ⟨gb, 0, none⟩), .int .i64 i] w fun e w' => e = .returned (.int .i64 1) ∧ Below w.heap.size w w' := by
  have hget := mapGet ht hs hg hm
  have htk := fun W => give_arg 2 d x i l W (by have := hm.len; omega) hip hi
  obtain ⟨T, hT⟩ : ∃ T, T = str l := ⟨_, rfl⟩
  rw [← hT] at hget htk
  clear ht hs hg hm hT hi hip
  go_enter Tryz.func28, Tryz.ntmps28
  go_wp2_with fail
  with_reducible refine hget.mono ?_
  rintro e w1 ⟨rfl, hb1⟩
  have q6 := heap_alloc_new w1 (.cells #[.int .i64 2, .int .i64 d, .int .i64 x, .string T] 113)
  have c6 := blk_cell q6
  have hbb := below_al hb1 (.cells #[.int .i64 2, .int .i64 d, .int .i64 x, .string T] 113)
  clear q6 hb1 hget
  go_wp2_with fail
  with_reducible refine (htk _).mono ?_
  rintro e w2 ⟨rfl, hb2⟩
  have hbc := below_al (below_tr hbb hb2) (.cells #[.int .i64 0, .int .i64 0, .int .i64 0, .string ⟨#[]⟩] 113)
  clear c6 htk hbb hb2
  go_wp2_with fail
  go_ret
  exact ⟨rfl, hbc⟩
end Go.Proofs.YtijhamllnnilbaaGreatDoor.Gr
