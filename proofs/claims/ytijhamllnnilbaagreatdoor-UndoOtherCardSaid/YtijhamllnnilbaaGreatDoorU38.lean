/- Lemmas of the claim, in their order:
- Patches of a group, in pieces: what they are; the last loop. (Printed by tools/gen_gr.py.)
-/
import Derived.Test.YtijhamllnnilbaaGreatDoorU35
import Derived.Test.YtijhamllnnilbaaGreatDoorU24
import Derived.OwnWalk
import Derived.Carry
import Derived.RegionTactic
import Derived.Deep.RegionLaw
import Derived.Deep.RegionLawGrows
set_option linter.unusedVariables false
set_option linter.unusedSimpArgs false
namespace Go.Proofs.YtijhamllnnilbaaGreatDoor.Gr
open Go.RowKit Go.Proofs.YtijhamllnnilbaaGreatDoor.Mem Go.Proofs.YtijhamllnnilbaaGreatDoor.Pg Go.Proofs.YtijhamllnnilbaaGreatDoor.Kp
set_option linter.unusedSimpArgs false
set_option linter.unusedVariables false
/-- Ways into a function's code. -/
inductive St where | l | r | b | t | e
def sub : Code → List St → Code
  | c, [] => c
  | .seq a _, .l :: p => sub a p
  | .seq _ c, .r :: p => sub c p
  | .loop c, .b :: p => sub c p
  | .block _ c, .b :: p => sub c p
  | .cond _ a _, .t :: p => sub a p
  | .cond _ _ c, .e :: p => sub c p
  | _, _ => .skip
noncomputable def cFrom15 : Code := sub (Tryz.f46.body.getD .skip) [.r, .r, .r, .r, .r, .r, .r]
noncomputable def cFrom9 : Code := sub (Tryz.f46.body.getD .skip) [.r, .r, .r, .r, .r]
noncomputable def cB0 : Code := sub (Tryz.f46.body.getD .skip) [.r, .r, .r, .l, .r]
noncomputable def cB2 : Code := sub (Tryz.f46.body.getD .skip) [.r, .r, .r, .r, .r, .r, .l, .r]
theorem info_patch : (Tryz.prog.info? 206).map (fun i => (i.zero, i.size, i.bytes)) = some (some zqv, 3, 32) := by kernel_rfl
theorem info_int : (Tryz.prog.info? 3).map (fun i => (i.zero, i.size, i.bytes)) = some (some (.int .i64 0), 1, 8) := by kernel_rfl
/-- The patches of these pages. -/
noncomputable def pats (n : Nat) (dead : Int) (B : Nat → List UInt8) (M : Int → Option (List UInt8)) (l : List Int) : List Pat := l.filterMap fun i => diffP i (rd n dead B i).1 ((M i).getD [])
theorem pats_take {n : Nat} {dead : Int} {B : Nat → List UInt8} {M : Int → Option (List UInt8)} {l : List Int} {j : Nat} (hj : j < l.length) : pats n dead B M (l.take (j + 1)) = pats n dead B M (l.take j) ++ (diffP l[j] (rd n dead B l[j]).1 ((M l[j]).getD [])).toList := by
  rw [List.take_succ_eq_append_getElem hj, pats, pats, List.filterMap_append]
  congr 1
theorem pats_le (n : Nat) (dead : Int) (B : Nat → List UInt8) (M : Int → Option (List UInt8)) (l : List Int) : (pats n dead B M l).length ≤ l.length := List.length_filterMap_le _ _
def oldF (n : Nat) (dead : Int) (B : Nat → List UInt8) (l : List Int) : Int → Option (List UInt8) := fun i => if i ∈ l then some (rd n dead B i).1 else none
/-- What Patches hands back. -/
def PatPost (w0 : World) (n : Nat) (dead : Int) (B : Nat → List UInt8) (M : Int → Option (List UInt8)) (e : Ending) (w' : World) : Prop :=
  ∃ (v : Value) (l : List Int), e = .returned v ∧ l.Pairwise (· < ·) ∧ (∀ i, i ∈ l ↔ M i ≠ none) ∧ w'.ownsRow w0.heap.size 206 3 v (pats n dead B M l).length (flatP (pats n dead B M l)) ∧ Below w0.heap.size w0 w'
theorem own_set3 {w : World} {base k n : Nat} {e : TypeId} {size : Nat} {v a b c : Value} {xs : List Value} (h : w.ownsRow base e size v n xs) (hk : ∀ g, v.ownBlock = some g → g ≠ k) : (((w.setCell ⟨k, 0, none⟩ a).setCell ⟨k, 1, none⟩ b).setCell ⟨k, 2, none⟩ c).ownsRow base e size v n xs := by
  refine ⟨h.1, ?_⟩
  rcases h.2 with h2 | ⟨g, cap, cur, h1, h2, h3, h4⟩
  · exact .inl h2
  · have hg : g ≠ k := hk g (by rw [h1]; rfl)
    exact .inr ⟨g, cap, cur, h1, h2, ((heap_setCell_other _ _ _ _ hg).trans ((heap_setCell_other _ _ _ _ hg).trans (heap_setCell_other _ _ _ _ hg))).trans h3, h4⟩
set_option maxRecDepth 1000000 in
set_option maxHeartbeats 8000000 in
theorem from15 (w w0 : World) (gb mb sb n ob : Nat) (dead : Int) (B : Nat → List UInt8) (M : Int → Option (List UInt8)) (tk : Int) (lv : Value) (l : List Int) (hl : w.ownsRow w0.heap.size 3 1 lv l.length (ints l)) (hlt : l.Pairwise (· < ·)) (hlM : ∀ i, i ∈ l ↔ M i ≠ none) (hll : l.length ≤ 64) (hor : ∀ i, (rd n dead B i).1.length ≤ 1000)
    (ho : MapIs w ob (oldF n dead B l)) (hg : Grp w gb mb sb M tk) (hb : Below w0.heap.size w0 w)
    (u2 u3 u4 u6 u8 u9 u10 u11 u12 u13 u14 u15 u16 u17 u18 u19 u20 u21 u22 u23 u24 u25 u26 u27 u28 u29 u30 u31 u32 u33 u34 u35 u36 u37 u38 u39 u40 u41 u42 u43 u44 u45 u46 u47 u48 u49 u50 u51 u52 u53 u54 u55 u56 u57 u58 u59 u60 u61 u62 u63 u64 u65 u66 u67 u68 u69 u70 u71 u72 u73 u74 u75 u76 u77 u78 u79 u80 u81 u82 u83 u84 u85 u86 u87 u88 u89 u90 u91 u92 u93 u94 u95 u96 : Value) :
    Code.wp Tryz.prog cFrom15 (bodyPost Tryz.prog Tryz.f46 (PatPost w0 n dead B M)) ⟨#[.pointer (some ⟨gb, 0, none⟩), .nilFunc, u2, u3, u4, lv, u6, .map (some ob), u8, u9, u10, u11, u12, u13, u14, u15, u16, u17, u18, u19, u20, u21, u22, u23, u24, u25, u26, u27, u28, u29, u30, u31, u32, u33, u34, u35, u36, u37, u38, u39, u40, u41, u42, u43, u44, u45, u46, u47, u48, u49, u50, u51, u52, u53, u54, u55, u56, u57, u58, u59, u60, u61, u62, u63, u64, u65, u66, u67, u68, u69, u70, u71, u72, u73, u74, u75, u76, u77, u78, u79, u80, u81, u82, u83, u84, u85, u86, u87, u88, u89, u90, u91, u92, u93, u94, u95, u96], []⟩ w := by
  obtain ⟨i0, hif, hz0, hz1, hz2⟩ := info_parts info_patch
  have hnn : ∀ W : World, (binOp BinOp.neq 203 .nilFunc .nilFunc).run Tryz.prog W = .ok (.bool false) W := fun W => by kernel_rfl
  have Hl := Lib.hid hl
  have HlM := Lib.hid (And.intro hlt hlM)
  have Ho := Lib.hid ho
  have Hg := Lib.hid hg
  have Hb := Lib.hid hb
  have hsz0 := hb.size
  have Hrng : Hid (∀ i, i ∈ l → 0 ≤ i ∧ i < 64) := Lib.hid fun i hi => by
    rcases e : M i with _ | b
    · exact absurd e ((hlM i).1 hi)
    · have := hg.map.rng i b e
      exact ⟨this.1, this.2.1⟩
  obtain ⟨la, lc, rfl⟩ := own_slice hl
  clear hl hlt hlM ho hg hb
  conv => arg 2; whnf
  go_wp2_with fail
  go_loopw [10, 53] (fun u i wr => ∃ (j : Nat) (uv : Value), u = uv ∧ i = .int .i64 j ∧ j ≤ l.length ∧ wr.ownsRow w.heap.size 206 3 uv (pats n dead B M (l.take j)).length (flatP (pats n dead B M (l.take j))) ∧ Below w.heap.size w wr) (fun _ i _ => l.length - (intOf i).toNat)
  case atStart => exact ⟨0, _, rfl, rfl, Nat.zero_le _, World.ownsRow_nil _ _ _ _, Below.refl _ _⟩
  case round =>
    obtain ⟨j, uv, rfl, rfl, hj, hu, hbel⟩ := hrel
    by_cases hlt : j < l.length
    · have hrow := (own_below Hl.out hbel)
      obtain ⟨lb, rfl⟩ : ∃ lb, la = some ⟨lb, 0, none⟩ := by
        rcases Hl.out.2 with ⟨h1, h2⟩ | ⟨g, cap, cur, h1, _⟩
        · omega
        · injection h1 with h1 _ _
          exact ⟨g, h1⟩
      obtain ⟨i, hi⟩ : ∃ i, i = l[j] := ⟨_, rfl⟩
      have hcell := own_at hrow j (.int .i64 i) (by rw [ints, List.getElem?_map, List.getElem?_eq_getElem hlt, hi]; rfl)
      have hrange := Hrng.out i (by rw [hi]; exact List.getElem_mem _)
      have hwf := kl_wf hrange.1 hrange.2
      have hzb : lb < wr.heap.size := own_lt hrow lb rfl
      have d1 : decide ((j : Int) < (l.length : Int)) = true := by simpa using hlt
      have d2 : decide (j < l.length) = true := by simpa using hlt
      have hlt' : (j : Int) < (l.length : Int) := by omega
      obtain ⟨o, hoo⟩ : ∃ o, o = (rd n dead B i).1 := ⟨_, rfl⟩
      obtain ⟨b, hbb⟩ : ∃ b, b = (M i).getD [] := ⟨_, rfl⟩
      have hg1 := Hg.out.below hbel
      have cg := blk_cell hg1.grp
      have zg := hg1.lt1
      have L1 : Hid (∀ W, Below w.heap.size w W → (Instr.lookup 117 (.map (some ob)) (.int .i64 i) false).run Tryz.prog W = .ok (.string (str o)) W) := Lib.hid fun W hW => by
        have h := (Ho.out.below hW).look1 i hwf
        have e : oldF n dead B l i = some o := by rw [oldF, if_pos (by rw [hi]; exact List.getElem_mem _), hoo]
        rw [e] at h
        exact h
      have L2 : Hid (∀ W, Below w.heap.size w W → (Instr.lookup 117 (.map (some mb)) (.int .i64 i) false).run Tryz.prog W = .ok (.string (str b)) W) := Lib.hid fun W hW => by
        have h := (Hg.out.below hW).map.look1 i hwf
        rw [← hbb] at h
        exact h
      have Htk : Hid (pats n dead B M (l.take (j + 1)) = pats n dead B M (l.take j) ++ (diffP i o b).toList) := Lib.hid (by rw [pats_take hlt, hoo, hbb, hi])
      have Hbel := Lib.hid hbel
      have Hu := Lib.hid hu
      have i1 : IntKind.i64.wrap ((j : Int) + 1) = (j : Int) + 1 := IntWalk.i64_in _ (by omega)
      have hps : (pats n dead B M (l.take j)).length ≤ 64 := Nat.le_trans (pats_le _ _ _ _ _) (by rw [List.length_take]; omega)
      generalize hpq : pats n dead B M (l.take j) = ps at *
      clear hoo hbb hi hg1 hbel hu hrow hlt hpq
      by_cases hd : o = b ∨ o.length ≠ 256 ∨ b.length ≠ 256
      · have hno := fun W => diff_no i o b W hrange.1 hrange.2 hd
        have Hd := Lib.hid (diffP_none (i := i) hd)
        generalize str o = So at *
        generalize str b = Sb at *
        clear hd
        go_wp2_with fail
        refine wp_region_held_drew (S := (fun W' => Below w.heap.size w W' ∧ W'.ownsRow w.heap.size 206 3 u10 ps.length (flatP ps) ∧ wr.heap.size ≤ W'.heap.size)) (by kernel_rfl) (⟨below_dr Hbel.out, Hu.out.drew, Nat.le_refl _⟩) (fun hHeld => ?_)
        refine Ra.W 0 ?_ ?_ hHeld ?_
        rotate_left
        · intro wq hSw
          go_simp
          try with_reducible rfl
        try simp only [Act.put, List.getElem_toArray, List.getElem_cons_succ, List.getElem_cons_zero, List.setIfInBounds_toArray, List.set_cons_zero, List.set_cons_succ]
        refine Ra.W 1 ?_ ?_ hHeld ?_
        rotate_left
        · intro wq hSw
          go_simp
          try with_reducible rfl
        try simp only [Act.put, List.getElem_toArray, List.getElem_cons_succ, List.getElem_cons_zero, List.setIfInBounds_toArray, List.set_cons_zero, List.set_cons_succ]
        refine Ra.W 2 ?_ ?_ hHeld ?_
        rotate_left
        · intro wq hSw
          go_simp
          try with_reducible rfl
        try simp only [Act.put, List.getElem_toArray, List.getElem_cons_succ, List.getElem_cons_zero, List.setIfInBounds_toArray, List.set_cons_zero, List.set_cons_succ]
        refine Ra.W 3 ?_ ?_ hHeld ?_
        rotate_left
        · intro wq hSw
          have hSa := L1.out _ hSw.1; have hSb := L2.out _ hSw.1; have hSc := blk_cell (Hg.out.below hSw.1).grp; have hSd := (Hg.out.below hSw.1).lt1
          go_simp
          try rw [if_neg (by omega)]
          try rw [if_pos (by omega)]
          try with_reducible rfl
        try simp only [Act.put, List.getElem_toArray, List.getElem_cons_succ, List.getElem_cons_zero, List.setIfInBounds_toArray, List.set_cons_zero, List.set_cons_succ]
        refine Ra.W 4 ?_ ?_ hHeld ?_
        rotate_left
        · intro wq hSw
          go_simp
          try with_reducible rfl
        try simp only [Act.put, List.getElem_toArray, List.getElem_cons_succ, List.getElem_cons_zero, List.setIfInBounds_toArray, List.set_cons_zero, List.set_cons_succ]
        refine Ra.W 5 ?_ ?_ hHeld ?_
        rotate_left
        · intro wq hSw
          go_simp
          try with_reducible rfl
        try simp only [Act.put, List.getElem_toArray, List.getElem_cons_succ, List.getElem_cons_zero, List.setIfInBounds_toArray, List.set_cons_zero, List.set_cons_succ]
        refine Ra.W 6 ?_ ?_ hHeld ?_
        rotate_left
        · intro wq hSw
          go_simp
          try with_reducible rfl
        try simp only [Act.put, List.getElem_toArray, List.getElem_cons_succ, List.getElem_cons_zero, List.setIfInBounds_toArray, List.set_cons_zero, List.set_cons_succ]
        refine Ra.W 7 ?_ ?_ hHeld ?_
        rotate_left
        · intro wq hSw
          have hSa := L1.out _ hSw.1; have hSb := L2.out _ hSw.1; have hSc := blk_cell (Hg.out.below hSw.1).grp; have hSd := (Hg.out.below hSw.1).lt1
          go_simp
          try with_reducible rfl
        try simp only [Act.put, List.getElem_toArray, List.getElem_cons_succ, List.getElem_cons_zero, List.setIfInBounds_toArray, List.set_cons_zero, List.set_cons_succ]
        refine Ra.W 8 ?_ ?_ hHeld ?_
        rotate_left
        · intro wq hSw
          go_simp
          try with_reducible rfl
        try simp only [Act.put, List.getElem_toArray, List.getElem_cons_succ, List.getElem_cons_zero, List.setIfInBounds_toArray, List.set_cons_zero, List.set_cons_succ]
        refine Ra.W 9 ?_ ?_ hHeld ?_
        rotate_left
        · intro wq hSw
          have hSa := L1.out _ hSw.1; have hSb := L2.out _ hSw.1; have hSc := blk_cell (Hg.out.below hSw.1).grp; have hSd := (Hg.out.below hSw.1).lt1
          go_simp
          try rw [if_neg (by omega)]
          try rw [if_pos (by omega)]
          try with_reducible rfl
        try simp only [Act.put, List.getElem_toArray, List.getElem_cons_succ, List.getElem_cons_zero, List.setIfInBounds_toArray, List.set_cons_zero, List.set_cons_succ]
        refine wpAnyH_ready (rs := [10, 14]) (by kernel_rfl) (by simp) ?_
        refine AllReadyH.cons rfl (fun K hK => ?_) (AllReadyH.cons rfl (fun K hK => ?_) AllReadyH.nil)
        · rw [if_pos (by kernel_rfl)]
          go_simp
          (with_reducible refine (hno _).mono ?_)
          rintro e w2 ⟨rfl, hb2⟩
          have hw2s := And.intro (below_base hHeld.1 hHeld.1.size hb2) (And.intro (own_below hHeld.2.1 hb2) (Nat.le_trans hHeld.2.2 hb2.size))
          first | (have k2 : w2.heap[wr.heap.size]? = some (.cells #[.int .i64 0, .int .i64 0, .string ⟨#[]⟩] 206 (0, 0)) := (hb2.block wr.heap.size (by show wr.heap.size < (wr.alloc zqo).heap.size; simp)).trans (heap_alloc_new wr zqo); have c2 := blk_cell k2; have f2 := blk_free k2; have z2 := lt_of_block k2) | skip
          go_simp
          refine hK.out _ _ (⟨below_base hHeld.1 hHeld.1.size hb2, own_below hHeld.2.1 hb2, Nat.le_trans hHeld.2.2 hb2.size⟩) (fun hHeld2 => ?_)
          clear hK K
          try clear hHeld
          have hHeld := hHeld2
          try clear hHeld2
          refine Ra.W 11 ?_ ?_ hHeld ?_
          rotate_left
          · intro wq hSw
            go_simp
            try with_reducible rfl
          try simp only [Act.put, List.getElem_toArray, List.getElem_cons_succ, List.getElem_cons_zero, List.setIfInBounds_toArray, List.set_cons_zero, List.set_cons_succ]
          refine Ra.W 12 ?_ ?_ hHeld ?_
          rotate_left
          · intro wq hSw
            go_simp
            try with_reducible rfl
          try simp only [Act.put, List.getElem_toArray, List.getElem_cons_succ, List.getElem_cons_zero, List.setIfInBounds_toArray, List.set_cons_zero, List.set_cons_succ]
          refine Ra.W 13 ?_ ?_ hHeld ?_
          rotate_left
          · intro wq hSw
            go_simp
            try with_reducible rfl
          try simp only [Act.put, List.getElem_toArray, List.getElem_cons_succ, List.getElem_cons_zero, List.setIfInBounds_toArray, List.set_cons_zero, List.set_cons_succ]
          refine wpAnyH_ready (rs := [14]) (by kernel_rfl) (by simp) ?_
          refine AllReadyH.cons rfl (fun K hK => ?_) AllReadyH.nil
          rw [if_pos (by kernel_rfl)]
          go_simp
          go_simp
          refine hK.out _ _ (⟨below_base hHeld.1 hHeld.1.size (below_al (Below.refl _ _) _), hHeld.2.1.alloc _, Nat.le_trans hHeld.2.2 (by simp)⟩) (fun hHeld2 => ?_)
          clear hK K
          try clear hHeld
          have hHeld := hHeld2
          try clear hHeld2
          refine wpAnyH_ready (rs := [15]) (by kernel_rfl) (by simp) ?_
          refine AllReadyH.cons rfl (fun K hK => ?_) AllReadyH.nil
          rw [if_pos (by kernel_rfl)]
          go_simp
          go_simp
          refine hK.out _ _ ((by first | exact ⟨below_set (below_set (below_set hHeld.1 Hbel.out.size) Hbel.out.size) Hbel.out.size, own_set3 hHeld.2.1 (fun g hg => Nat.ne_of_lt (own_lt Hu.out g hg)), by simpa using hHeld.2.2⟩ | exact ⟨hw2s.1.alloc hw2s.1.size _, hw2s.2.1.alloc _, Nat.le_trans hw2s.2.2 (by simp)⟩)) (fun hHeld2 => ?_)
          clear hK K
          try clear hHeld
          have hHeld := hHeld2
          try clear hHeld2
          refine Ra.W 16 ?_ ?_ hHeld ?_
          rotate_left
          · intro wq hSw
            go_simp
            try with_reducible rfl
          try simp only [Act.put, List.getElem_toArray, List.getElem_cons_succ, List.getElem_cons_zero, List.setIfInBounds_toArray, List.set_cons_zero, List.set_cons_succ]
          refine wpAnyH_done (by kernel_rfl) ?_ _
          have Hh := Lib.hid hHeld
          clear hHeld
          go_wp2_with fail
          go_roundw
          case rel => exact ⟨j + 1, _, rfl, by go_num, by omega, by rw [Htk.out, Hd.out]; simpa using Hh.out.2.1, Hh.out.1⟩
          case measure => clear i1; simp [intOf]; omega
        · rw [if_pos (by kernel_rfl)]
          go_simp
          go_simp
          refine hK.out _ _ (⟨below_base hHeld.1 hHeld.1.size (below_al (Below.refl _ _) _), hHeld.2.1.alloc _, Nat.le_trans hHeld.2.2 (by simp)⟩) (fun hHeld2 => ?_)
          clear hK K
          try clear hHeld
          have hHeld := hHeld2
          try clear hHeld2
          refine wpAnyH_ready (rs := [10]) (by kernel_rfl) (by simp) ?_
          refine AllReadyH.cons rfl (fun K hK => ?_) AllReadyH.nil
          rw [if_pos (by kernel_rfl)]
          go_simp
          (with_reducible refine (hno _).mono ?_)
          rintro e w2 ⟨rfl, hb2⟩
          have hw2s := And.intro (below_base hHeld.1 hHeld.1.size hb2) (And.intro (own_below hHeld.2.1 hb2) (Nat.le_trans hHeld.2.2 hb2.size))
          first | (have k2 : w2.heap[wr.heap.size]? = some (.cells #[.int .i64 0, .int .i64 0, .string ⟨#[]⟩] 206 (0, 0)) := (hb2.block wr.heap.size (by show wr.heap.size < (wr.alloc zqo).heap.size; simp)).trans (heap_alloc_new wr zqo); have c2 := blk_cell k2; have f2 := blk_free k2; have z2 := lt_of_block k2) | skip
          go_simp
          refine hK.out _ _ (⟨below_base hHeld.1 hHeld.1.size hb2, own_below hHeld.2.1 hb2, Nat.le_trans hHeld.2.2 hb2.size⟩) (fun hHeld2 => ?_)
          clear hK K
          try clear hHeld
          have hHeld := hHeld2
          try clear hHeld2
          refine Ra.W 11 ?_ ?_ hHeld ?_
          rotate_left
          · intro wq hSw
            go_simp
            try with_reducible rfl
          try simp only [Act.put, List.getElem_toArray, List.getElem_cons_succ, List.getElem_cons_zero, List.setIfInBounds_toArray, List.set_cons_zero, List.set_cons_succ]
          refine Ra.W 12 ?_ ?_ hHeld ?_
          rotate_left
          · intro wq hSw
            go_simp
            try with_reducible rfl
          try simp only [Act.put, List.getElem_toArray, List.getElem_cons_succ, List.getElem_cons_zero, List.setIfInBounds_toArray, List.set_cons_zero, List.set_cons_succ]
          refine Ra.W 13 ?_ ?_ hHeld ?_
          rotate_left
          · intro wq hSw
            go_simp
            try with_reducible rfl
          try simp only [Act.put, List.getElem_toArray, List.getElem_cons_succ, List.getElem_cons_zero, List.setIfInBounds_toArray, List.set_cons_zero, List.set_cons_succ]
          refine wpAnyH_ready (rs := [15]) (by kernel_rfl) (by simp) ?_
          refine AllReadyH.cons rfl (fun K hK => ?_) AllReadyH.nil
          rw [if_pos (by kernel_rfl)]
          go_simp
          go_simp
          refine hK.out _ _ ((by first | exact ⟨below_set (below_set (below_set hHeld.1 Hbel.out.size) Hbel.out.size) Hbel.out.size, own_set3 hHeld.2.1 (fun g hg => Nat.ne_of_lt (own_lt Hu.out g hg)), by simpa using hHeld.2.2⟩ | exact ⟨hw2s.1.alloc hw2s.1.size _, hw2s.2.1.alloc _, Nat.le_trans hw2s.2.2 (by simp)⟩)) (fun hHeld2 => ?_)
          clear hK K
          try clear hHeld
          have hHeld := hHeld2
          try clear hHeld2
          refine Ra.W 16 ?_ ?_ hHeld ?_
          rotate_left
          · intro wq hSw
            go_simp
            try with_reducible rfl
          try simp only [Act.put, List.getElem_toArray, List.getElem_cons_succ, List.getElem_cons_zero, List.setIfInBounds_toArray, List.set_cons_zero, List.set_cons_succ]
          refine wpAnyH_done (by kernel_rfl) ?_ _
          have Hh := Lib.hid hHeld
          clear hHeld
          go_wp2_with fail
          go_roundw
          case rel => exact ⟨j + 1, _, rfl, by go_num, by omega, by rw [Htk.out, Hd.out]; simpa using Hh.out.2.1, Hh.out.1⟩
          case measure => clear i1; simp [intOf]; omega
      · have ho' : o.length = 256 := Classical.byContradiction fun h => hd (.inr (.inl h))
        have hb' : b.length = 256 := Classical.byContradiction fun h => hd (.inr (.inr h))
        have hyes := fun W => diff_yes i o b W hrange.1 hrange.2 ho' hb' (fun h => hd (.inl h))
        have Hlen := Lib.hid (And.intro ho' hb')
        generalize str o = So at *
        generalize str b = Sb at *
        clear hd ho' hb'
        go_wp2_with fail
        refine wp_region_held_drew (S := (fun W' => Below w.heap.size w W' ∧ W'.ownsRow w.heap.size 206 3 u10 ps.length (flatP ps) ∧ wr.heap.size ≤ W'.heap.size)) (by kernel_rfl) (⟨below_dr Hbel.out, Hu.out.drew, Nat.le_refl _⟩) (fun hHeld => ?_)
        refine Ra.W 0 ?_ ?_ hHeld ?_
        rotate_left
        · intro wq hSw
          go_simp
          try with_reducible rfl
        try simp only [Act.put, List.getElem_toArray, List.getElem_cons_succ, List.getElem_cons_zero, List.setIfInBounds_toArray, List.set_cons_zero, List.set_cons_succ]
        refine Ra.W 1 ?_ ?_ hHeld ?_
        rotate_left
        · intro wq hSw
          go_simp
          try with_reducible rfl
        try simp only [Act.put, List.getElem_toArray, List.getElem_cons_succ, List.getElem_cons_zero, List.setIfInBounds_toArray, List.set_cons_zero, List.set_cons_succ]
        refine Ra.W 2 ?_ ?_ hHeld ?_
        rotate_left
        · intro wq hSw
          go_simp
          try with_reducible rfl
        try simp only [Act.put, List.getElem_toArray, List.getElem_cons_succ, List.getElem_cons_zero, List.setIfInBounds_toArray, List.set_cons_zero, List.set_cons_succ]
        refine Ra.W 3 ?_ ?_ hHeld ?_
        rotate_left
        · intro wq hSw
          have hSa := L1.out _ hSw.1; have hSb := L2.out _ hSw.1; have hSc := blk_cell (Hg.out.below hSw.1).grp; have hSd := (Hg.out.below hSw.1).lt1
          go_simp
          try rw [if_neg (by omega)]
          try rw [if_pos (by omega)]
          try with_reducible rfl
        try simp only [Act.put, List.getElem_toArray, List.getElem_cons_succ, List.getElem_cons_zero, List.setIfInBounds_toArray, List.set_cons_zero, List.set_cons_succ]
        refine Ra.W 4 ?_ ?_ hHeld ?_
        rotate_left
        · intro wq hSw
          go_simp
          try with_reducible rfl
        try simp only [Act.put, List.getElem_toArray, List.getElem_cons_succ, List.getElem_cons_zero, List.setIfInBounds_toArray, List.set_cons_zero, List.set_cons_succ]
        refine Ra.W 5 ?_ ?_ hHeld ?_
        rotate_left
        · intro wq hSw
          go_simp
          try with_reducible rfl
        try simp only [Act.put, List.getElem_toArray, List.getElem_cons_succ, List.getElem_cons_zero, List.setIfInBounds_toArray, List.set_cons_zero, List.set_cons_succ]
        refine Ra.W 6 ?_ ?_ hHeld ?_
        rotate_left
        · intro wq hSw
          go_simp
          try with_reducible rfl
        try simp only [Act.put, List.getElem_toArray, List.getElem_cons_succ, List.getElem_cons_zero, List.setIfInBounds_toArray, List.set_cons_zero, List.set_cons_succ]
        refine Ra.W 7 ?_ ?_ hHeld ?_
        rotate_left
        · intro wq hSw
          have hSa := L1.out _ hSw.1; have hSb := L2.out _ hSw.1; have hSc := blk_cell (Hg.out.below hSw.1).grp; have hSd := (Hg.out.below hSw.1).lt1
          go_simp
          try with_reducible rfl
        try simp only [Act.put, List.getElem_toArray, List.getElem_cons_succ, List.getElem_cons_zero, List.setIfInBounds_toArray, List.set_cons_zero, List.set_cons_succ]
        refine Ra.W 8 ?_ ?_ hHeld ?_
        rotate_left
        · intro wq hSw
          go_simp
          try with_reducible rfl
        try simp only [Act.put, List.getElem_toArray, List.getElem_cons_succ, List.getElem_cons_zero, List.setIfInBounds_toArray, List.set_cons_zero, List.set_cons_succ]
        refine Ra.W 9 ?_ ?_ hHeld ?_
        rotate_left
        · intro wq hSw
          have hSa := L1.out _ hSw.1; have hSb := L2.out _ hSw.1; have hSc := blk_cell (Hg.out.below hSw.1).grp; have hSd := (Hg.out.below hSw.1).lt1
          go_simp
          try rw [if_neg (by omega)]
          try rw [if_pos (by omega)]
          try with_reducible rfl
        try simp only [Act.put, List.getElem_toArray, List.getElem_cons_succ, List.getElem_cons_zero, List.setIfInBounds_toArray, List.set_cons_zero, List.set_cons_succ]
        refine wpAnyH_ready (rs := [10, 14]) (by kernel_rfl) (by simp) ?_
        refine AllReadyH.cons rfl (fun K hK => ?_) (AllReadyH.cons rfl (fun K hK => ?_) AllReadyH.nil)
        · rw [if_pos (by kernel_rfl)]
          go_simp
          (with_reducible refine (hyes _).mono ?_)
          rintro e w2 ⟨ff, tt, hdi, rfl, hb2⟩
          simp only [Pat.v]
          have hw2s := And.intro (below_base hHeld.1 hHeld.1.size hb2) (And.intro (own_below hHeld.2.1 hb2) (Nat.le_trans hHeld.2.2 hb2.size))
          first | (have k2 : w2.heap[wr.heap.size]? = some (.cells #[.int .i64 0, .int .i64 0, .string ⟨#[]⟩] 206 (0, 0)) := (hb2.block wr.heap.size (by show wr.heap.size < (wr.alloc zqo).heap.size; simp)).trans (heap_alloc_new wr zqo); have c2 := blk_cell k2; have f2 := blk_free k2; have z2 := lt_of_block k2) | skip
          go_simp
          refine hK.out _ _ (⟨below_base hHeld.1 hHeld.1.size hb2, own_below hHeld.2.1 hb2, Nat.le_trans hHeld.2.2 hb2.size⟩) (fun hHeld2 => ?_)
          clear hK K
          try clear hHeld
          have hHeld := hHeld2
          try clear hHeld2
          refine Ra.W 11 ?_ ?_ hHeld ?_
          rotate_left
          · intro wq hSw
            go_simp
            try with_reducible rfl
          try simp only [Act.put, List.getElem_toArray, List.getElem_cons_succ, List.getElem_cons_zero, List.setIfInBounds_toArray, List.set_cons_zero, List.set_cons_succ]
          refine Ra.W 12 ?_ ?_ hHeld ?_
          rotate_left
          · intro wq hSw
            go_simp
            try with_reducible rfl
          try simp only [Act.put, List.getElem_toArray, List.getElem_cons_succ, List.getElem_cons_zero, List.setIfInBounds_toArray, List.set_cons_zero, List.set_cons_succ]
          refine Ra.W 13 ?_ ?_ hHeld ?_
          rotate_left
          · intro wq hSw
            go_simp
            try with_reducible rfl
          try simp only [Act.put, List.getElem_toArray, List.getElem_cons_succ, List.getElem_cons_zero, List.setIfInBounds_toArray, List.set_cons_zero, List.set_cons_succ]
          refine wpAnyH_ready (rs := [14]) (by kernel_rfl) (by simp) ?_
          refine AllReadyH.cons rfl (fun K hK => ?_) AllReadyH.nil
          rw [if_pos (by kernel_rfl)]
          go_simp
          go_simp
          refine hK.out _ _ (⟨below_base hHeld.1 hHeld.1.size (below_al (Below.refl _ _) _), hHeld.2.1.alloc _, Nat.le_trans hHeld.2.2 (by simp)⟩) (fun hHeld2 => ?_)
          clear hK K
          try clear hHeld
          have hHeld := hHeld2
          try clear hHeld2
          refine wpAnyH_ready (rs := [15]) (by kernel_rfl) (by simp) ?_
          refine AllReadyH.cons rfl (fun K hK => ?_) AllReadyH.nil
          rw [if_pos (by kernel_rfl)]
          go_simp
          go_simp
          refine hK.out _ _ ((by first | exact ⟨below_set (below_set (below_set hHeld.1 Hbel.out.size) Hbel.out.size) Hbel.out.size, own_set3 hHeld.2.1 (fun g hg => Nat.ne_of_lt (own_lt Hu.out g hg)), by simpa using hHeld.2.2⟩ | exact ⟨hw2s.1.alloc hw2s.1.size _, hw2s.2.1.alloc _, Nat.le_trans hw2s.2.2 (by simp)⟩)) (fun hHeld2 => ?_)
          clear hK K
          try clear hHeld
          have hHeld := hHeld2
          try clear hHeld2
          refine Ra.W 16 ?_ ?_ hHeld ?_
          rotate_left
          · intro wq hSw
            go_simp
            try with_reducible rfl
          try simp only [Act.put, List.getElem_toArray, List.getElem_cons_succ, List.getElem_cons_zero, List.setIfInBounds_toArray, List.set_cons_zero, List.set_cons_succ]
          refine wpAnyH_done (by kernel_rfl) ?_ _
          have Hd := Lib.hid (diffP_some (i := i) Hlen.out.1 Hlen.out.2 hdi)
          obtain ⟨w3, k3, hw3⟩ : ∃ w3 : World, w3.heap[(w2.heap.size : Nat)]? = some (.cells #[.int .i64 i, .int .i64 (ff : Int), .string (str ((b.take tt).drop ff))] 206 (0, 0)) ∧ w3 = w2.alloc (.cells #[.int .i64 i, .int .i64 (ff : Int), .string (str ((b.take tt).drop ff))] 206) := ⟨_, heap_alloc_new w2 _, rfl⟩
          rw [← hw3] at hHeld ⊢
          have Hh := Lib.hid hHeld
          have c3 := blk_cell k3
          have z3 := lt_of_block k3
          clear hHeld hw3 k3 hb2
          have hz3 := Hh.out.1.size
          go_wp2_with (at_builtin; refine wpList_append_lies _ rfl (.tmp 91) (.tmp 93) _ rfl w.heap.size 206 i0 zqv 3 32 Tryz.underlying99 hif hz0 hz1 hz2 rfl (by decide) u10 ps.length (flatP ps) rfl (Hh.out.2.1.alloc _) ⟨w3.heap.size, 0, none⟩ 1 1 [.int .i64 i, .int .i64 (ff : Int), .string (str ((b.take tt).drop ff))] rfl rfl (cells_new _ _ rfl _ _) (by simp [Value.oneCell']) (by omega) (by unfold maxLen; omega) (by omega) (by simp; omega) _ rfl ?_; intro g1 c1 w4 ho1 hg1 hat1 hl1)
          have b4 := below_grown (below_al Hh.out.1 (.cells #[.int .i64 i, .int .i64 (ff : Int), .string (str ((b.take tt).drop ff))] 206)) (by simp; omega) Hh.out.2.1 hg1
          go_roundw
          case rel => exact ⟨j + 1, _, rfl, by go_num, by omega, by rw [Htk.out, Hd.out]; simpa [flatP, Pat.cells] using ho1, b4⟩
          case measure => clear i1; simp [intOf]; omega
        · rw [if_pos (by kernel_rfl)]
          go_simp
          go_simp
          refine hK.out _ _ (⟨below_base hHeld.1 hHeld.1.size (below_al (Below.refl _ _) _), hHeld.2.1.alloc _, Nat.le_trans hHeld.2.2 (by simp)⟩) (fun hHeld2 => ?_)
          clear hK K
          try clear hHeld
          have hHeld := hHeld2
          try clear hHeld2
          refine wpAnyH_ready (rs := [10]) (by kernel_rfl) (by simp) ?_
          refine AllReadyH.cons rfl (fun K hK => ?_) AllReadyH.nil
          rw [if_pos (by kernel_rfl)]
          go_simp
          (with_reducible refine (hyes _).mono ?_)
          rintro e w2 ⟨ff, tt, hdi, rfl, hb2⟩
          simp only [Pat.v]
          have hw2s := And.intro (below_base hHeld.1 hHeld.1.size hb2) (And.intro (own_below hHeld.2.1 hb2) (Nat.le_trans hHeld.2.2 hb2.size))
          first | (have k2 : w2.heap[wr.heap.size]? = some (.cells #[.int .i64 0, .int .i64 0, .string ⟨#[]⟩] 206 (0, 0)) := (hb2.block wr.heap.size (by show wr.heap.size < (wr.alloc zqo).heap.size; simp)).trans (heap_alloc_new wr zqo); have c2 := blk_cell k2; have f2 := blk_free k2; have z2 := lt_of_block k2) | skip
          go_simp
          refine hK.out _ _ (⟨below_base hHeld.1 hHeld.1.size hb2, own_below hHeld.2.1 hb2, Nat.le_trans hHeld.2.2 hb2.size⟩) (fun hHeld2 => ?_)
          clear hK K
          try clear hHeld
          have hHeld := hHeld2
          try clear hHeld2
          refine Ra.W 11 ?_ ?_ hHeld ?_
          rotate_left
          · intro wq hSw
            go_simp
            try with_reducible rfl
          try simp only [Act.put, List.getElem_toArray, List.getElem_cons_succ, List.getElem_cons_zero, List.setIfInBounds_toArray, List.set_cons_zero, List.set_cons_succ]
          refine Ra.W 12 ?_ ?_ hHeld ?_
          rotate_left
          · intro wq hSw
            go_simp
            try with_reducible rfl
          try simp only [Act.put, List.getElem_toArray, List.getElem_cons_succ, List.getElem_cons_zero, List.setIfInBounds_toArray, List.set_cons_zero, List.set_cons_succ]
          refine Ra.W 13 ?_ ?_ hHeld ?_
          rotate_left
          · intro wq hSw
            go_simp
            try with_reducible rfl
          try simp only [Act.put, List.getElem_toArray, List.getElem_cons_succ, List.getElem_cons_zero, List.setIfInBounds_toArray, List.set_cons_zero, List.set_cons_succ]
          refine wpAnyH_ready (rs := [15]) (by kernel_rfl) (by simp) ?_
          refine AllReadyH.cons rfl (fun K hK => ?_) AllReadyH.nil
          rw [if_pos (by kernel_rfl)]
          go_simp
          go_simp
          refine hK.out _ _ ((by first | exact ⟨below_set (below_set (below_set hHeld.1 Hbel.out.size) Hbel.out.size) Hbel.out.size, own_set3 hHeld.2.1 (fun g hg => Nat.ne_of_lt (own_lt Hu.out g hg)), by simpa using hHeld.2.2⟩ | exact ⟨hw2s.1.alloc hw2s.1.size _, hw2s.2.1.alloc _, Nat.le_trans hw2s.2.2 (by simp)⟩)) (fun hHeld2 => ?_)
          clear hK K
          try clear hHeld
          have hHeld := hHeld2
          try clear hHeld2
          refine Ra.W 16 ?_ ?_ hHeld ?_
          rotate_left
          · intro wq hSw
            go_simp
            try with_reducible rfl
          try simp only [Act.put, List.getElem_toArray, List.getElem_cons_succ, List.getElem_cons_zero, List.setIfInBounds_toArray, List.set_cons_zero, List.set_cons_succ]
          refine wpAnyH_done (by kernel_rfl) ?_ _
          have Hd := Lib.hid (diffP_some (i := i) Hlen.out.1 Hlen.out.2 hdi)
          obtain ⟨w3, k3, hw3⟩ : ∃ w3 : World, w3.heap[(wr.heap.size : Nat)]? = some (.cells #[.int .i64 i, .int .i64 (ff : Int), .string (str ((b.take tt).drop ff))] 206 (0, 0)) ∧ w3 = (((w2.setCell ⟨wr.heap.size, 0, none⟩ (.int .i64 i)).setCell ⟨wr.heap.size, 1, none⟩ (.int .i64 (ff : Int))).setCell ⟨wr.heap.size, 2, none⟩ (.string (str ((b.take tt).drop ff)))) := ⟨_, set3_same k2 _ _ _, rfl⟩
          rw [← hw3] at hHeld ⊢
          have Hh := Lib.hid hHeld
          have c3 := blk_cell k3
          have z3 := lt_of_block k3
          clear hHeld hw3 k3 hb2
          have hz3 := Hh.out.1.size
          go_wp2_with (at_builtin; refine wpList_append_lies _ rfl (.tmp 91) (.tmp 93) _ rfl w.heap.size 206 i0 zqv 3 32 Tryz.underlying99 hif hz0 hz1 hz2 rfl (by decide) u10 ps.length (flatP ps) rfl (Hh.out.2.1.alloc _) ⟨w3.heap.size, 0, none⟩ 1 1 [.int .i64 i, .int .i64 (ff : Int), .string (str ((b.take tt).drop ff))] rfl rfl (cells_new _ _ rfl _ _) (by simp [Value.oneCell']) (by omega) (by unfold maxLen; omega) (by omega) (by simp; omega) _ rfl ?_; intro g1 c1 w4 ho1 hg1 hat1 hl1)
          have b4 := below_grown (below_al Hh.out.1 (.cells #[.int .i64 i, .int .i64 (ff : Int), .string (str ((b.take tt).drop ff))] 206)) (by simp; omega) Hh.out.2.1 hg1
          go_roundw
          case rel => exact ⟨j + 1, _, rfl, by go_num, by omega, by rw [Htk.out, Hd.out]; simpa [flatP, Pat.cells] using ho1, b4⟩
          case measure => clear i1; simp [intOf]; omega
    · obtain rfl : j = l.length := by omega
      rw [List.take_length] at hu
      have Hu := Lib.hid (row_mono hu hsz0)
      have Hbel := Lib.hid (Hb.out.trans (hbel.mono hsz0))
      clear hu hbel
      go_wp2_with fail
      go_ret
      exact ⟨_, l, rfl, HlM.out.1, HlM.out.2, Hu.out, Hbel.out⟩
end Go.Proofs.YtijhamllnnilbaaGreatDoor.Gr
