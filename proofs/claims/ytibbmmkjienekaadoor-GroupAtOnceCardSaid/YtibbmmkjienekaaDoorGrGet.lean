/- The contract of a group's Get. -/
import Derived.Test.YtibbmmkjienekaaDoorGrStore
namespace Go.Proofs.YtibbmmkjienekaaDoor.Gr
open Go.RowKit Go.Proofs.YtibbmmkjienekaaDoor.Mem Go.Proofs.YtibbmmkjienekaaDoor.Pg Go.Proofs.YtibbmmkjienekaaDoor.Kp
set_option linter.unusedSimpArgs false
set_option linter.unusedVariables false

/-- What a group shows as bytes, and the error. -/
def seen (n : Nat) (dead : Int) (B : Nat → List UInt8) (M : Int → Option (List UInt8)) (i : Int) : List UInt8 × Int := match M i with
  | some b => (b, 0)
  | none => rd n dead B i
abbrev zpv : Value := .agg #[.int .i64 0, .int .i64 0, .int .i64 0, .string ⟨#[]⟩]
abbrev zpo : Obj := .cells #[.int .i64 0, .int .i64 0, .int .i64 0, .string ⟨#[]⟩] 23 (0, 0)

set_option maxRecDepth 100000 in
set_option maxHeartbeats 2000000 in
theorem gget_any (w : World) (gb mb sb qb n c : Nat) (dead : Int) (B : Nat → List UInt8) (M : Int → Option (List UInt8)) (tk i : Int) (hi : (Lit.int .i64 i).wf = true) (ht : Tab w) (hs : Sto w sb qb n c dead B) (hg : Grp w gb mb sb M tk) (b : List UInt8) (p : Pag) (h : seen n dead B M i = (b, 0)) (hp : Shows b p) :
    Calls Tryd.prog 11 #[.pointer (some ⟨gb, 0, none⟩), .int .i64 i] w fun e w' => e = .returned (.tuple #[p.v, .int .i64 0]) ∧ Below w.heap.size w w' := by
  have hlk := fun W (k : MapIs W mb M) => k.look i hi
  have hk4 := heap_alloc_new w (.cells #[.int .i64 0, .int .i64 0, .int .i64 0, .string ⟨#[]⟩] 23)
  have ht1 := ht.alloc (.cells #[.int .i64 0, .int .i64 0, .int .i64 0, .string ⟨#[]⟩] 23)
  have hb1 := below_al (Below.refl _ w) (.cells #[.int .i64 0, .int .i64 0, .int .i64 0, .string ⟨#[]⟩] 23)
  have hg1 := hg.below hb1
  have hs1 := hs.below hb1
  have cg := blk_cell hg1.grp
  have zg := hg1.lt1
  have hrun := hlk _ hg1.map
  have Hs1 := Lib.hid hs1
  have Hg1 := Lib.hid hg1
  have H4 := Lib.hid hk4
  have HT := Lib.hid ht1
  have HB := Lib.hid hb1
  have hrd := fun W (k : Sto W sb qb n c dead B) => read_any W sb qb n c dead B i k
  have hget := fun W (k : Tab W) => get_any b p W k hp
  obtain ⟨S, hS⟩ : ∃ S, S = str b := ⟨_, rfl⟩
  obtain ⟨k, d, x, l⟩ := p
  simp only [Pag.v] at hget ⊢
  obtain ⟨T, hT⟩ : ∃ T, T = str l := ⟨_, rfl⟩
  rw [← hS, ← hT] at hget
  rw [← hT]
  unfold seen at h
  clear hk4 ht1 hb1 hg1 hs1 hs hg ht hp hT
  rcases e : M i with _ | b'
  · rw [e] at h hrun
    simp only [Option.getD_none, Option.isSome_none] at h hrun
    simp only [h, ← hS] at hrd
    clear e h hS
    go_enter Tryd.func11, Tryd.ntmps11
    go_wp2_with fail
    with_reducible refine (hrd _ Hs1.out).mono ?_
    rintro e w1 ⟨rfl, rfl⟩
    go_wp2_with fail
    with_reducible refine (hget _ HT.out).mono ?_
    rintro e w2 ⟨rfl, hb2⟩
    have q4 := blk_keep H4.out hb2
    have hbb := below_tr HB.out hb2
    have c4 := blk_cell q4
    have f4 := blk_free q4
    have z4 := lt_of_block q4
    have q9 := heap_alloc_new w2 (.cells #[.int .i64 k, .int .i64 d, .int .i64 x, .string T] 23)
    have hne : w2.heap.size ≠ w.heap.size := by omega
    have c9 := blk_cell q9
    have c5 := blk_cell (hal (o := .cells #[.int .i64 k, .int .i64 d, .int .i64 x, .string T] 23) (set4_same q4 (.int .i64 k) (.int .i64 d) (.int .i64 x) (.string T)))
    clear q4 q9 hb2 cg zg hrun
    go_wp2_with fail
    refine bodyPost_ret (v := .tuple #[.agg #[.int .i64 k, .int .i64 d, .int .i64 x, .string T], .int .i64 0]) (by simp [results, Tryd.results11, go_sem, c5]) rfl ⟨rfl, ?_⟩
    exact below_al (below_set4 hbb (Nat.le_refl _) _ _ _ _) _
  · rw [e] at h hrun
    simp only [Option.getD_some, Option.isSome_some, Prod.mk.injEq, and_true] at h hrun
    subst h
    rw [← hS] at hrun
    clear e hS hrd
    go_enter Tryd.func11, Tryd.ntmps11
    go_wp2_with fail
    with_reducible refine (hget _ HT.out).mono ?_
    rintro e w2 ⟨rfl, hb2⟩
    have q4 := blk_keep H4.out hb2
    have hbb := below_tr HB.out hb2
    have c4 := blk_cell q4
    have f4 := blk_free q4
    have z4 := lt_of_block q4
    have q9 := heap_alloc_new w2 (.cells #[.int .i64 k, .int .i64 d, .int .i64 x, .string T] 23)
    have hne : w2.heap.size ≠ w.heap.size := by omega
    have c9 := blk_cell q9
    have c5 := blk_cell (hal (o := .cells #[.int .i64 k, .int .i64 d, .int .i64 x, .string T] 23) (set4_same q4 (.int .i64 k) (.int .i64 d) (.int .i64 x) (.string T)))
    clear q4 q9 hb2 cg zg hrun
    go_wp2_with fail
    refine bodyPost_ret (v := .tuple #[.agg #[.int .i64 k, .int .i64 d, .int .i64 x, .string T], .int .i64 0]) (by simp [results, Tryd.results11, go_sem, c5]) rfl ⟨rfl, ?_⟩
    exact below_al (below_set4 hbb (Nat.le_refl _) _ _ _ _) _

set_option maxRecDepth 100000 in
theorem gget_err (w : World) (gb mb sb qb n c : Nat) (dead : Int) (B : Nat → List UInt8) (M : Int → Option (List UInt8)) (tk i : Int) (hi : (Lit.int .i64 i).wf = true) (hs : Sto w sb qb n c dead B) (hg : Grp w gb mb sb M tk) (b : List UInt8) (e : Int) (h : seen n dead B M i = (b, e)) (he : e ≠ 0) :
    Calls Tryd.prog 11 #[.pointer (some ⟨gb, 0, none⟩), .int .i64 i] w fun e' w' => e' = .returned (.tuple #[zpv, .int .i64 e]) ∧ Below w.heap.size w w' := by
  have hk4 := heap_alloc_new w (.cells #[.int .i64 0, .int .i64 0, .int .i64 0, .string ⟨#[]⟩] 23)
  have hb1 := below_al (Below.refl _ w) (.cells #[.int .i64 0, .int .i64 0, .int .i64 0, .string ⟨#[]⟩] 23)
  have hg1 := hg.below hb1
  have hs1 := hs.below hb1
  have cg := blk_cell hg1.grp
  have c4 := blk_cell hk4
  have zg := hg1.lt1
  have hrun := hg1.map.look i hi
  have Hs1 := Lib.hid hs1
  have hrd := fun W (k : Sto W sb qb n c dead B) => read_any W sb qb n c dead B i k
  obtain ⟨S, hS⟩ : ∃ S, S = str b := ⟨_, rfl⟩
  have de : (e != 0) = true := by simpa using he
  have de' : (e == 0) = false := by simpa using he
  unfold seen at h
  rcases e' : M i with _ | b'
  · rw [e'] at h hrun
    simp only [Option.getD_none, Option.isSome_none] at h hrun
    simp only [h, ← hS] at hrd
    clear e' h hS he hk4 hg1 hs1 hs hg
    go_enter Tryd.func11, Tryd.ntmps11
    go_wp2_with fail
    with_reducible refine (hrd _ Hs1.out).mono ?_
    rintro e w1 ⟨rfl, rfl⟩
    go_wp2_with fail
    refine bodyPost_ret (v := .tuple #[zpv, .int .i64 e]) (by simp [results, Tryd.results11, go_sem, c4]) rfl ⟨rfl, ?_⟩
    exact hb1
  · rw [e'] at h
    simp only [Prod.mk.injEq] at h
    exact absurd h.2.symm he

set_option maxRecDepth 100000 in
theorem gget_form (w : World) (gb mb sb qb n c : Nat) (dead : Int) (B : Nat → List UInt8) (M : Int → Option (List UInt8)) (tk i : Int) (hi : (Lit.int .i64 i).wf = true) (hs : Sto w sb qb n c dead B) (hg : Grp w gb mb sb M tk) (b : List UInt8) (hm : M i = none) (h : rd n dead B i = (b, 0)) (hl : b.length ≠ 256) :
    Calls Tryd.prog 11 #[.pointer (some ⟨gb, 0, none⟩), .int .i64 i] w fun e' w' => e' = .returned (.tuple #[zpv, .int .i64 2]) ∧ Below w.heap.size w w' := by
  have hk4 := heap_alloc_new w (.cells #[.int .i64 0, .int .i64 0, .int .i64 0, .string ⟨#[]⟩] 23)
  have hb1 := below_al (Below.refl _ w) (.cells #[.int .i64 0, .int .i64 0, .int .i64 0, .string ⟨#[]⟩] 23)
  have hg1 := hg.below hb1
  have hs1 := hs.below hb1
  have cg := blk_cell hg1.grp
  have c4 := blk_cell hk4
  have zg := hg1.lt1
  have hrun := hg1.map.look i hi
  have Hs1 := Lib.hid hs1
  have H4 := Lib.hid hk4
  have HB := Lib.hid hb1
  have hrd := fun W (k : Sto W sb qb n c dead B) => read_any W sb qb n c dead B i k
  obtain ⟨S, hS⟩ : ∃ S, S = str b := ⟨_, rfl⟩
  have hget := fun W => get_short S W (by rw [hS, str_size]; exact hl)
  rw [hm] at hrun
  simp only [Option.getD_none, Option.isSome_none] at hrun
  simp only [h, ← hS] at hrd
  clear h hS hl hk4 hg1 hs1 hs hg
  go_enter Tryd.func11, Tryd.ntmps11
  go_wp2_with fail
  with_reducible refine (hrd _ Hs1.out).mono ?_
  rintro e w1 ⟨rfl, rfl⟩
  go_wp2_with fail
  with_reducible refine (hget _).mono ?_
  rintro e w2 ⟨rfl, hb2⟩
  have q4 := blk_keep H4.out hb2
  have hbb := below_tr HB.out hb2
  clear c4 cg zg hrun
  have c4 := blk_cell q4
  have f4 := blk_free q4
  have z4 := lt_of_block q4
  have c5 := blk_cell (hal (o := .cells #[.int .i64 0, .int .i64 0, .int .i64 0, .string ⟨#[]⟩] 23) (set4_same q4 (.int .i64 0) (.int .i64 0) (.int .i64 0) (.string ⟨#[]⟩)))
  clear q4 hb2
  go_wp2_with fail
  refine bodyPost_ret (v := .tuple #[zpv, .int .i64 2]) (by simp [results, Tryd.results11, go_sem, c5, c4]) rfl ⟨rfl, ?_⟩
  first | exact below_al hbb _ | exact below_al (below_set4 hbb (Nat.le_refl _) _ _ _ _) _
end Go.Proofs.YtibbmmkjienekaaDoor.Gr
