/- Patches of a group, with the closure that GroupAtOnce hands in. (Printed by tools/gen_ga.py.) -/
import Derived.Test.YtibbmmkjienekaaDoorGrPatchesB
import Derived.OwnWalk
import Derived.Carry
import Derived.RegionTactic
import Derived.Deep.RegionLaw
import Derived.Deep.RegionLawGrows
namespace Go.Proofs.YtibbmmkjienekaaDoor.Gr
open Go.RowKit Go.Proofs.YtibbmmkjienekaaDoor.Mem Go.Proofs.YtibbmmkjienekaaDoor.Pg Go.Proofs.YtibbmmkjienekaaDoor.Kp
set_option linter.unusedSimpArgs false
set_option linter.unusedVariables false
theorem wp_world {P : Program} {c : Code} {Q : Exit → Act → World → Prop} {f : Act} {a b : World} (h : b = a) (k : Code.wp P c Q f b) : Code.wp P c Q f a := h ▸ k
/-- The function value that GroupAtOnce hands in: it tells what lies in block cb. -/
abbrev fv (cb : Nat) : Value := .func (.func 20) #[] #[.pointer (some ⟨cb, 0, none⟩)]
theorem fv_not_nil (cb : Nat) (w : World) : (binOp BinOp.neq 54 (fv cb) .nilFunc).run Tryd.prog w = .ok (.bool true) w := by kernel_rfl
set_option maxRecDepth 100000 in
theorem clo_any (w : World) (cb : Nat) (cl : Bool) (i : Int) (h : w.heap[cb]? = some (.cells #[.bool cl] 4 (0, 0))) :
    Calls Tryd.prog 20 #[.int .i64 i, .pointer (some ⟨cb, 0, none⟩)] w fun e w' => e = .returned (.bool cl) ∧ w' = w := by
  have hc := blk_cell h
  have hz := lt_of_block h
  clear h
  go_enter Tryd.func20, Tryd.ntmps20
  go_wp2_with fail
  first | done | (go_ret; exact ⟨rfl, rfl⟩)
/-- A patch, or all of its page. -/
def patW (cl : Bool) (b : List UInt8) (q : Pat) : Pat := if cl then ⟨q.p, 0, b⟩ else q
noncomputable def patsC (cl : Bool) (n : Nat) (dead : Int) (B : Nat → List UInt8) (M : Int → Option (List UInt8)) (l : List Int) : List Pat := l.filterMap fun i => (diffP i (rd n dead B i).1 ((M i).getD [])).map (patW cl ((M i).getD []))
theorem patsC_take {cl : Bool} {n : Nat} {dead : Int} {B : Nat → List UInt8} {M : Int → Option (List UInt8)} {l : List Int} {j : Nat} (hj : j < l.length) : patsC cl n dead B M (l.take (j + 1)) = patsC cl n dead B M (l.take j) ++ ((diffP l[j] (rd n dead B l[j]).1 ((M l[j]).getD [])).map (patW cl ((M l[j]).getD []))).toList := by
  rw [List.take_succ_eq_append_getElem hj, patsC, patsC, List.filterMap_append]
  congr 1
theorem patsC_le (cl : Bool) (n : Nat) (dead : Int) (B : Nat → List UInt8) (M : Int → Option (List UInt8)) (l : List Int) : (patsC cl n dead B M l).length ≤ l.length := List.length_filterMap_le _ _
/-- What Patches hands back. -/
def PatPostC (cl : Bool) (w0 : World) (n : Nat) (dead : Int) (B : Nat → List UInt8) (M : Int → Option (List UInt8)) (e : Ending) (w' : World) : Prop :=
  ∃ (v : Value) (l : List Int), e = .returned v ∧ l.Pairwise (· < ·) ∧ (∀ i, i ∈ l ↔ M i ≠ none) ∧ w'.ownsRow w0.heap.size 57 3 v (patsC cl n dead B M l).length (flatP (patsC cl n dead B M l)) ∧ Below w0.heap.size w0 w'
set_option maxRecDepth 1000000 in
set_option maxHeartbeats 8000000 in
theorem from15c (w w0 : World) (cl : Bool) (cb : Nat) (hcb : w.heap[cb]? = some (.cells #[.bool cl] 4 (0, 0))) (gb mb sb n ob : Nat) (dead : Int) (B : Nat → List UInt8) (M : Int → Option (List UInt8)) (tk : Int) (lv : Value) (l : List Int) (hl : w.ownsRow w0.heap.size 3 1 lv l.length (ints l)) (hlt : l.Pairwise (· < ·)) (hlM : ∀ i, i ∈ l ↔ M i ≠ none) (hll : l.length ≤ 64) (hor : ∀ i, (rd n dead B i).1.length ≤ 1000)
    (ho : MapIs w ob (oldF n dead B l)) (hg : Grp w gb mb sb M tk) (hb : Below w0.heap.size w0 w)
    (u2 u3 u4 u6 u8 u9 u10 u11 u12 u13 u14 u15 u16 u17 u18 u19 u20 u21 u22 u23 u24 u25 u26 u27 u28 u29 u30 u31 u32 u33 u34 u35 u36 u37 u38 u39 u40 u41 u42 u43 u44 u45 u46 u47 u48 u49 u50 u51 u52 u53 u54 u55 u56 u57 u58 u59 u60 u61 u62 u63 u64 u65 u66 u67 u68 u69 u70 u71 u72 u73 u74 u75 u76 u77 u78 u79 u80 u81 u82 u83 u84 u85 u86 u87 u88 u89 u90 u91 u92 u93 u94 u95 u96 : Value) :
    Code.wp Tryd.prog cFrom15 (bodyPost Tryd.prog Tryd.f15 (PatPostC cl w0 n dead B M)) ⟨#[.pointer (some ⟨gb, 0, none⟩), (fv cb), u2, u3, u4, lv, u6, .map (some ob), u8, u9, u10, u11, u12, u13, u14, u15, u16, u17, u18, u19, u20, u21, u22, u23, u24, u25, u26, u27, u28, u29, u30, u31, u32, u33, u34, u35, u36, u37, u38, u39, u40, u41, u42, u43, u44, u45, u46, u47, u48, u49, u50, u51, u52, u53, u54, u55, u56, u57, u58, u59, u60, u61, u62, u63, u64, u65, u66, u67, u68, u69, u70, u71, u72, u73, u74, u75, u76, u77, u78, u79, u80, u81, u82, u83, u84, u85, u86, u87, u88, u89, u90, u91, u92, u93, u94, u95, u96], []⟩ w := by
  obtain ⟨i0, hif, hz0, hz1, hz2⟩ := info_parts info_patch
  have hnn := fv_not_nil cb
  have Hcl : Hid (∀ W, Below w.heap.size w W → ∀ i : Int, Calls Tryd.prog 20 #[.int .i64 i, .pointer (some ⟨cb, 0, none⟩)] W fun e w' => e = .returned (.bool cl) ∧ w' = W) := Lib.hid fun W hW i => clo_any W cb cl i (blk_keep hcb hW)
  have Hl := Lib.hid hl
  have HlM := Lib.hid (And.intro hlt hlM)
  have Ho := Lib.hid ho
  have Hg := Lib.hid hg
  have Hb := Lib.hid hb
  have hsz0 := hb.size
  have Hrng : Hid (∀ i, i ∈ l → 0 ≤ i ∧ i < 64) := Lib.hid fun i hi => by
    rcases e : M i with _ | b
    · exact absurd e ((hlM i).1 hi)
    · have := hg.map.rng i b e
      exact ⟨this.1, this.2.1⟩
  obtain ⟨la, lc, rfl⟩ := own_slice hl
  clear hl hlt hlM ho hg hb hcb
  conv => arg 2; whnf
  go_wp2_with fail
  go_loopw [10, 53] (fun u i wr => ∃ (j : Nat) (uv : Value), u = uv ∧ i = .int .i64 j ∧ j ≤ l.length ∧ wr.ownsRow w.heap.size 57 3 uv (patsC cl n dead B M (l.take j)).length (flatP (patsC cl n dead B M (l.take j))) ∧ Below w.heap.size w wr) (fun _ i _ => l.length - (intOf i).toNat)
  case atStart => exact ⟨0, _, rfl, rfl, Nat.zero_le _, World.ownsRow_nil _ _ _ _, Below.refl _ _⟩
  case round =>
    obtain ⟨j, uv, rfl, rfl, hj, hu, hbel⟩ := hrel
    by_cases hlt : j < l.length
    · have hrow := (own_below Hl.out hbel)
      obtain ⟨lb, rfl⟩ : ∃ lb, la = some ⟨lb, 0, none⟩ := by
        rcases Hl.out.2 with ⟨h1, h2⟩ | ⟨g, cap, cur, h1, _⟩
        · omega
        · injection h1 with h1 _ _
          exact ⟨g, h1⟩
      obtain ⟨i, hi⟩ : ∃ i, i = l[j] := ⟨_, rfl⟩
      have hcell := own_at hrow j (.int .i64 i) (by rw [ints, List.getElem?_map, List.getElem?_eq_getElem hlt, hi]; rfl)
      have hrange := Hrng.out i (by rw [hi]; exact List.getElem_mem _)
      have hwf := kl_wf hrange.1 hrange.2
      have hzb : lb < wr.heap.size := own_lt hrow lb rfl
      have d1 : decide ((j : Int) < (l.length : Int)) = true := by simpa using hlt
      have d2 : decide (j < l.length) = true := by simpa using hlt
      have hlt' : (j : Int) < (l.length : Int) := by omega
      obtain ⟨o, hoo⟩ : ∃ o, o = (rd n dead B i).1 := ⟨_, rfl⟩
      obtain ⟨b, hbb⟩ : ∃ b, b = (M i).getD [] := ⟨_, rfl⟩
      have hg1 := Hg.out.below hbel
      have cg := blk_cell hg1.grp
      have zg := hg1.lt1
      have L1 : Hid (∀ W, Below w.heap.size w W → (Instr.lookup 64 (.map (some ob)) (.int .i64 i) false).run Tryd.prog W = .ok (.string (str o)) W) := Lib.hid fun W hW => by
        have h := (Ho.out.below hW).look1 i hwf
        have e : oldF n dead B l i = some o := by rw [oldF, if_pos (by rw [hi]; exact List.getElem_mem _), hoo]
        rw [e] at h
        exact h
      have L2 : Hid (∀ W, Below w.heap.size w W → (Instr.lookup 64 (.map (some mb)) (.int .i64 i) false).run Tryd.prog W = .ok (.string (str b)) W) := Lib.hid fun W hW => by
        have h := (Hg.out.below hW).map.look1 i hwf
        rw [← hbb] at h
        exact h
      have Htk : Hid (patsC cl n dead B M (l.take (j + 1)) = patsC cl n dead B M (l.take j) ++ ((diffP i o b).map (patW cl b)).toList) := Lib.hid (by rw [patsC_take hlt, hoo, hbb, hi])
      have Hbel := Lib.hid hbel
      have Hu := Lib.hid hu
      have i1 : IntKind.i64.wrap ((j : Int) + 1) = (j : Int) + 1 := IntWalk.i64_in _ (by omega)
      have hps : (patsC cl n dead B M (l.take j)).length ≤ 64 := Nat.le_trans (patsC_le _ _ _ _ _ _) (by rw [List.length_take]; omega)
      generalize hpq : patsC cl n dead B M (l.take j) = ps at *
      clear hoo hbb hi hg1 hbel hu hrow hlt hpq
      by_cases hd : o = b ∨ o.length ≠ 256 ∨ b.length ≠ 256
      · have hno := fun W => diff_no i o b W hrange.1 hrange.2 hd
        have Hd := Lib.hid (diffP_none (i := i) hd)
        generalize str o = So at *
        generalize str b = Sb at *
        clear hd
        go_wp2_with fail
        refine wp_region_held_drew (S := (fun W' => Below w.heap.size w W' ∧ W'.ownsRow w.heap.size 57 3 u10 ps.length (flatP ps) ∧ wr.heap.size ≤ W'.heap.size)) (by kernel_rfl) (⟨below_dr Hbel.out, Hu.out.drew, Nat.le_refl _⟩) (fun hHeld => ?_)
        refine wpAnyH_take (i := 0) (v := ?_) rfl (by kernel_rfl) (by kernel_rfl) (by kernel_rfl) (fun _ _ _ h => h) (Or.inl ⟨by kernel_rfl, ?_⟩) hHeld ?_
        rotate_left
        · intro wq hSw
          have hSa := L1.out _ hSw.1; have hSb := L2.out _ hSw.1; have hSc := blk_cell (Hg.out.below hSw.1).grp; have hSd := (Hg.out.below hSw.1).lt1
          go_simp
          try rw [if_neg (by omega)]
          try rw [if_pos (by omega)]
          try with_reducible rfl
        try simp only [Act.put, List.getElem_toArray, List.getElem_cons_succ, List.getElem_cons_zero, List.setIfInBounds_toArray, List.set_cons_zero, List.set_cons_succ]
        refine wpAnyH_take (i := 1) (v := ?_) rfl (by kernel_rfl) (by kernel_rfl) (by kernel_rfl) (fun _ _ _ h => h) (Or.inl ⟨by kernel_rfl, ?_⟩) hHeld ?_
        rotate_left
        · intro wq hSw
          have hSa := L1.out _ hSw.1; have hSb := L2.out _ hSw.1; have hSc := blk_cell (Hg.out.below hSw.1).grp; have hSd := (Hg.out.below hSw.1).lt1
          go_simp
          try rw [if_neg (by omega)]
          try rw [if_pos (by omega)]
          try with_reducible rfl
        try simp only [Act.put, List.getElem_toArray, List.getElem_cons_succ, List.getElem_cons_zero, List.setIfInBounds_toArray, List.set_cons_zero, List.set_cons_succ]
        refine wpAnyH_take (i := 2) (v := ?_) rfl (by kernel_rfl) (by kernel_rfl) (by kernel_rfl) (fun _ _ _ h => h) (Or.inl ⟨by kernel_rfl, ?_⟩) hHeld ?_
        rotate_left
        · intro wq hSw
          have hSa := L1.out _ hSw.1; have hSb := L2.out _ hSw.1; have hSc := blk_cell (Hg.out.below hSw.1).grp; have hSd := (Hg.out.below hSw.1).lt1
          go_simp
          try rw [if_neg (by omega)]
          try rw [if_pos (by omega)]
          try with_reducible rfl
        try simp only [Act.put, List.getElem_toArray, List.getElem_cons_succ, List.getElem_cons_zero, List.setIfInBounds_toArray, List.set_cons_zero, List.set_cons_succ]
        refine wpAnyH_take (i := 3) (v := ?_) rfl (by kernel_rfl) (by kernel_rfl) (by kernel_rfl) (fun _ _ _ h => h) (Or.inl ⟨by kernel_rfl, ?_⟩) hHeld ?_
        rotate_left
        · intro wq hSw
          have hSa := L1.out _ hSw.1; have hSb := L2.out _ hSw.1; have hSc := blk_cell (Hg.out.below hSw.1).grp; have hSd := (Hg.out.below hSw.1).lt1
          go_simp
          try rw [if_neg (by omega)]
          try rw [if_pos (by omega)]
          try with_reducible rfl
        try simp only [Act.put, List.getElem_toArray, List.getElem_cons_succ, List.getElem_cons_zero, List.setIfInBounds_toArray, List.set_cons_zero, List.set_cons_succ]
        refine wpAnyH_take (i := 4) (v := ?_) rfl (by kernel_rfl) (by kernel_rfl) (by kernel_rfl) (fun _ _ _ h => h) (Or.inl ⟨by kernel_rfl, ?_⟩) hHeld ?_
        rotate_left
        · intro wq hSw
          have hSa := L1.out _ hSw.1; have hSb := L2.out _ hSw.1; have hSc := blk_cell (Hg.out.below hSw.1).grp; have hSd := (Hg.out.below hSw.1).lt1
          go_simp
          try rw [if_neg (by omega)]
          try rw [if_pos (by omega)]
          try with_reducible rfl
        try simp only [Act.put, List.getElem_toArray, List.getElem_cons_succ, List.getElem_cons_zero, List.setIfInBounds_toArray, List.set_cons_zero, List.set_cons_succ]
        refine wpAnyH_take (i := 5) (v := ?_) rfl (by kernel_rfl) (by kernel_rfl) (by kernel_rfl) (fun _ _ _ h => h) (Or.inl ⟨by kernel_rfl, ?_⟩) hHeld ?_
        rotate_left
        · intro wq hSw
          have hSa := L1.out _ hSw.1; have hSb := L2.out _ hSw.1; have hSc := blk_cell (Hg.out.below hSw.1).grp; have hSd := (Hg.out.below hSw.1).lt1
          go_simp
          try rw [if_neg (by omega)]
          try rw [if_pos (by omega)]
          try with_reducible rfl
        try simp only [Act.put, List.getElem_toArray, List.getElem_cons_succ, List.getElem_cons_zero, List.setIfInBounds_toArray, List.set_cons_zero, List.set_cons_succ]
        refine wpAnyH_take (i := 6) (v := ?_) rfl (by kernel_rfl) (by kernel_rfl) (by kernel_rfl) (fun _ _ _ h => h) (Or.inl ⟨by kernel_rfl, ?_⟩) hHeld ?_
        rotate_left
        · intro wq hSw
          have hSa := L1.out _ hSw.1; have hSb := L2.out _ hSw.1; have hSc := blk_cell (Hg.out.below hSw.1).grp; have hSd := (Hg.out.below hSw.1).lt1
          go_simp
          try rw [if_neg (by omega)]
          try rw [if_pos (by omega)]
          try with_reducible rfl
        try simp only [Act.put, List.getElem_toArray, List.getElem_cons_succ, List.getElem_cons_zero, List.setIfInBounds_toArray, List.set_cons_zero, List.set_cons_succ]
        refine wpAnyH_take (i := 7) (v := ?_) rfl (by kernel_rfl) (by kernel_rfl) (by kernel_rfl) (fun _ _ _ h => h) (Or.inl ⟨by kernel_rfl, ?_⟩) hHeld ?_
        rotate_left
        · intro wq hSw
          have hSa := L1.out _ hSw.1; have hSb := L2.out _ hSw.1; have hSc := blk_cell (Hg.out.below hSw.1).grp; have hSd := (Hg.out.below hSw.1).lt1
          go_simp
          try rw [if_neg (by omega)]
          try rw [if_pos (by omega)]
          try with_reducible rfl
        try simp only [Act.put, List.getElem_toArray, List.getElem_cons_succ, List.getElem_cons_zero, List.setIfInBounds_toArray, List.set_cons_zero, List.set_cons_succ]
        refine wpAnyH_take (i := 8) (v := ?_) rfl (by kernel_rfl) (by kernel_rfl) (by kernel_rfl) (fun _ _ _ h => h) (Or.inl ⟨by kernel_rfl, ?_⟩) hHeld ?_
        rotate_left
        · intro wq hSw
          have hSa := L1.out _ hSw.1; have hSb := L2.out _ hSw.1; have hSc := blk_cell (Hg.out.below hSw.1).grp; have hSd := (Hg.out.below hSw.1).lt1
          go_simp
          try rw [if_neg (by omega)]
          try rw [if_pos (by omega)]
          try with_reducible rfl
        try simp only [Act.put, List.getElem_toArray, List.getElem_cons_succ, List.getElem_cons_zero, List.setIfInBounds_toArray, List.set_cons_zero, List.set_cons_succ]
        refine wpAnyH_take (i := 9) (v := ?_) rfl (by kernel_rfl) (by kernel_rfl) (by kernel_rfl) (fun _ _ _ h => h) (Or.inl ⟨by kernel_rfl, ?_⟩) hHeld ?_
        rotate_left
        · intro wq hSw
          have hSa := L1.out _ hSw.1; have hSb := L2.out _ hSw.1; have hSc := blk_cell (Hg.out.below hSw.1).grp; have hSd := (Hg.out.below hSw.1).lt1
          go_simp
          try rw [if_neg (by omega)]
          try rw [if_pos (by omega)]
          try with_reducible rfl
        try simp only [Act.put, List.getElem_toArray, List.getElem_cons_succ, List.getElem_cons_zero, List.setIfInBounds_toArray, List.set_cons_zero, List.set_cons_succ]
        refine wpAnyH_ready (rs := [10, 14]) (by kernel_rfl) (by simp) ?_
        refine AllReadyH.cons rfl (fun K hK => ?_) (AllReadyH.cons rfl (fun K hK => ?_) AllReadyH.nil)
        · rw [if_pos (by kernel_rfl)]
          go_simp
          (with_reducible refine (hno _).mono ?_)
          rintro e w2 ⟨rfl, hb2⟩
          have hw2s := And.intro (below_base hHeld.1 hHeld.1.size hb2) (And.intro (own_below hHeld.2.1 hb2) (Nat.le_trans hHeld.2.2 hb2.size))
          first | (have k2 : w2.heap[wr.heap.size]? = some (.cells #[.int .i64 0, .int .i64 0, .string ⟨#[]⟩] 57 (0, 0)) := (hb2.block wr.heap.size (by show wr.heap.size < (wr.alloc zqo).heap.size; simp)).trans (heap_alloc_new wr zqo); have c2 := blk_cell k2; have f2 := blk_free k2; have z2 := lt_of_block k2) | skip
          go_simp
          refine hK.out _ _ (⟨below_base hHeld.1 hHeld.1.size hb2, own_below hHeld.2.1 hb2, Nat.le_trans hHeld.2.2 hb2.size⟩) (fun hHeld2 => ?_)
          clear hK K
          try clear hHeld
          have hHeld := hHeld2
          try clear hHeld2
          refine wpAnyH_take (i := 11) (v := ?_) rfl (by kernel_rfl) (by kernel_rfl) (by kernel_rfl) (fun _ _ _ h => h) (Or.inl ⟨by kernel_rfl, ?_⟩) hHeld ?_
          rotate_left
          · intro wq hSw
            have hSa := L1.out _ hSw.1; have hSb := L2.out _ hSw.1; have hSc := blk_cell (Hg.out.below hSw.1).grp; have hSd := (Hg.out.below hSw.1).lt1
            go_simp
            try rw [if_neg (by omega)]
            try rw [if_pos (by omega)]
            try with_reducible rfl
          try simp only [Act.put, List.getElem_toArray, List.getElem_cons_succ, List.getElem_cons_zero, List.setIfInBounds_toArray, List.set_cons_zero, List.set_cons_succ]
          refine wpAnyH_take (i := 12) (v := ?_) rfl (by kernel_rfl) (by kernel_rfl) (by kernel_rfl) (fun _ _ _ h => h) (Or.inl ⟨by kernel_rfl, ?_⟩) hHeld ?_
          rotate_left
          · intro wq hSw
            have hSa := L1.out _ hSw.1; have hSb := L2.out _ hSw.1; have hSc := blk_cell (Hg.out.below hSw.1).grp; have hSd := (Hg.out.below hSw.1).lt1
            go_simp
            try rw [if_neg (by omega)]
            try rw [if_pos (by omega)]
            try with_reducible rfl
          try simp only [Act.put, List.getElem_toArray, List.getElem_cons_succ, List.getElem_cons_zero, List.setIfInBounds_toArray, List.set_cons_zero, List.set_cons_succ]
          refine wpAnyH_take (i := 13) (v := ?_) rfl (by kernel_rfl) (by kernel_rfl) (by kernel_rfl) (fun _ _ _ h => h) (Or.inl ⟨by kernel_rfl, ?_⟩) hHeld ?_
          rotate_left
          · intro wq hSw
            have hSa := L1.out _ hSw.1; have hSb := L2.out _ hSw.1; have hSc := blk_cell (Hg.out.below hSw.1).grp; have hSd := (Hg.out.below hSw.1).lt1
            go_simp
            try rw [if_neg (by omega)]
            try rw [if_pos (by omega)]
            try with_reducible rfl
          try simp only [Act.put, List.getElem_toArray, List.getElem_cons_succ, List.getElem_cons_zero, List.setIfInBounds_toArray, List.set_cons_zero, List.set_cons_succ]
          refine wpAnyH_ready (rs := [14]) (by kernel_rfl) (by simp) ?_
          refine AllReadyH.cons rfl (fun K hK => ?_) AllReadyH.nil
          rw [if_pos (by kernel_rfl)]
          go_simp
          go_simp
          refine hK.out _ _ (⟨below_base hHeld.1 hHeld.1.size (below_al (Below.refl _ _) _), hHeld.2.1.alloc _, Nat.le_trans hHeld.2.2 (by simp)⟩) (fun hHeld2 => ?_)
          clear hK K
          try clear hHeld
          have hHeld := hHeld2
          try clear hHeld2
          refine wpAnyH_ready (rs := [15]) (by kernel_rfl) (by simp) ?_
          refine AllReadyH.cons rfl (fun K hK => ?_) AllReadyH.nil
          rw [if_pos (by kernel_rfl)]
          go_simp
          go_simp
          refine hK.out _ _ ((by first | exact ⟨below_set (below_set (below_set hHeld.1 Hbel.out.size) Hbel.out.size) Hbel.out.size, own_set3 hHeld.2.1 (fun g hg => Nat.ne_of_lt (own_lt Hu.out g hg)), by simpa using hHeld.2.2⟩ | exact ⟨hw2s.1.alloc hw2s.1.size _, hw2s.2.1.alloc _, Nat.le_trans hw2s.2.2 (by simp)⟩)) (fun hHeld2 => ?_)
          clear hK K
          try clear hHeld
          have hHeld := hHeld2
          try clear hHeld2
          refine wpAnyH_take (i := 16) (v := ?_) rfl (by kernel_rfl) (by kernel_rfl) (by kernel_rfl) (fun _ _ _ h => h) (Or.inl ⟨by kernel_rfl, ?_⟩) hHeld ?_
          rotate_left
          · intro wq hSw
            have hSa := L1.out _ hSw.1; have hSb := L2.out _ hSw.1; have hSc := blk_cell (Hg.out.below hSw.1).grp; have hSd := (Hg.out.below hSw.1).lt1
            go_simp
            try rw [if_neg (by omega)]
            try rw [if_pos (by omega)]
            try with_reducible rfl
          try simp only [Act.put, List.getElem_toArray, List.getElem_cons_succ, List.getElem_cons_zero, List.setIfInBounds_toArray, List.set_cons_zero, List.set_cons_succ]
          refine wpAnyH_done (by kernel_rfl) ?_ _
          have Hh := Lib.hid hHeld
          clear hHeld
          go_wp2_with fail
          go_roundw
          case rel => exact ⟨j + 1, _, rfl, by go_num, by omega, by rw [Htk.out, Hd.out]; simpa using Hh.out.2.1, Hh.out.1⟩
          case measure => clear i1; simp [intOf]; omega
        · rw [if_pos (by kernel_rfl)]
          go_simp
          go_simp
          refine hK.out _ _ (⟨below_base hHeld.1 hHeld.1.size (below_al (Below.refl _ _) _), hHeld.2.1.alloc _, Nat.le_trans hHeld.2.2 (by simp)⟩) (fun hHeld2 => ?_)
          clear hK K
          try clear hHeld
          have hHeld := hHeld2
          try clear hHeld2
          refine wpAnyH_ready (rs := [10]) (by kernel_rfl) (by simp) ?_
          refine AllReadyH.cons rfl (fun K hK => ?_) AllReadyH.nil
          rw [if_pos (by kernel_rfl)]
          go_simp
          (with_reducible refine (hno _).mono ?_)
          rintro e w2 ⟨rfl, hb2⟩
          have hw2s := And.intro (below_base hHeld.1 hHeld.1.size hb2) (And.intro (own_below hHeld.2.1 hb2) (Nat.le_trans hHeld.2.2 hb2.size))
          first | (have k2 : w2.heap[wr.heap.size]? = some (.cells #[.int .i64 0, .int .i64 0, .string ⟨#[]⟩] 57 (0, 0)) := (hb2.block wr.heap.size (by show wr.heap.size < (wr.alloc zqo).heap.size; simp)).trans (heap_alloc_new wr zqo); have c2 := blk_cell k2; have f2 := blk_free k2; have z2 := lt_of_block k2) | skip
          go_simp
          refine hK.out _ _ (⟨below_base hHeld.1 hHeld.1.size hb2, own_below hHeld.2.1 hb2, Nat.le_trans hHeld.2.2 hb2.size⟩) (fun hHeld2 => ?_)
          clear hK K
          try clear hHeld
          have hHeld := hHeld2
          try clear hHeld2
          refine wpAnyH_take (i := 11) (v := ?_) rfl (by kernel_rfl) (by kernel_rfl) (by kernel_rfl) (fun _ _ _ h => h) (Or.inl ⟨by kernel_rfl, ?_⟩) hHeld ?_
          rotate_left
          · intro wq hSw
            have hSa := L1.out _ hSw.1; have hSb := L2.out _ hSw.1; have hSc := blk_cell (Hg.out.below hSw.1).grp; have hSd := (Hg.out.below hSw.1).lt1
            go_simp
            try rw [if_neg (by omega)]
            try rw [if_pos (by omega)]
            try with_reducible rfl
          try simp only [Act.put, List.getElem_toArray, List.getElem_cons_succ, List.getElem_cons_zero, List.setIfInBounds_toArray, List.set_cons_zero, List.set_cons_succ]
          refine wpAnyH_take (i := 12) (v := ?_) rfl (by kernel_rfl) (by kernel_rfl) (by kernel_rfl) (fun _ _ _ h => h) (Or.inl ⟨by kernel_rfl, ?_⟩) hHeld ?_
          rotate_left
          · intro wq hSw
            have hSa := L1.out _ hSw.1; have hSb := L2.out _ hSw.1; have hSc := blk_cell (Hg.out.below hSw.1).grp; have hSd := (Hg.out.below hSw.1).lt1
            go_simp
            try rw [if_neg (by omega)]
            try rw [if_pos (by omega)]
            try with_reducible rfl
          try simp only [Act.put, List.getElem_toArray, List.getElem_cons_succ, List.getElem_cons_zero, List.setIfInBounds_toArray, List.set_cons_zero, List.set_cons_succ]
          refine wpAnyH_take (i := 13) (v := ?_) rfl (by kernel_rfl) (by kernel_rfl) (by kernel_rfl) (fun _ _ _ h => h) (Or.inl ⟨by kernel_rfl, ?_⟩) hHeld ?_
          rotate_left
          · intro wq hSw
            have hSa := L1.out _ hSw.1; have hSb := L2.out _ hSw.1; have hSc := blk_cell (Hg.out.below hSw.1).grp; have hSd := (Hg.out.below hSw.1).lt1
            go_simp
            try rw [if_neg (by omega)]
            try rw [if_pos (by omega)]
            try with_reducible rfl
          try simp only [Act.put, List.getElem_toArray, List.getElem_cons_succ, List.getElem_cons_zero, List.setIfInBounds_toArray, List.set_cons_zero, List.set_cons_succ]
          refine wpAnyH_ready (rs := [15]) (by kernel_rfl) (by simp) ?_
          refine AllReadyH.cons rfl (fun K hK => ?_) AllReadyH.nil
          rw [if_pos (by kernel_rfl)]
          go_simp
          go_simp
          refine hK.out _ _ ((by first | exact ⟨below_set (below_set (below_set hHeld.1 Hbel.out.size) Hbel.out.size) Hbel.out.size, own_set3 hHeld.2.1 (fun g hg => Nat.ne_of_lt (own_lt Hu.out g hg)), by simpa using hHeld.2.2⟩ | exact ⟨hw2s.1.alloc hw2s.1.size _, hw2s.2.1.alloc _, Nat.le_trans hw2s.2.2 (by simp)⟩)) (fun hHeld2 => ?_)
          clear hK K
          try clear hHeld
          have hHeld := hHeld2
          try clear hHeld2
          refine wpAnyH_take (i := 16) (v := ?_) rfl (by kernel_rfl) (by kernel_rfl) (by kernel_rfl) (fun _ _ _ h => h) (Or.inl ⟨by kernel_rfl, ?_⟩) hHeld ?_
          rotate_left
          · intro wq hSw
            have hSa := L1.out _ hSw.1; have hSb := L2.out _ hSw.1; have hSc := blk_cell (Hg.out.below hSw.1).grp; have hSd := (Hg.out.below hSw.1).lt1
            go_simp
            try rw [if_neg (by omega)]
            try rw [if_pos (by omega)]
            try with_reducible rfl
          try simp only [Act.put, List.getElem_toArray, List.getElem_cons_succ, List.getElem_cons_zero, List.setIfInBounds_toArray, List.set_cons_zero, List.set_cons_succ]
          refine wpAnyH_done (by kernel_rfl) ?_ _
          have Hh := Lib.hid hHeld
          clear hHeld
          go_wp2_with fail
          go_roundw
          case rel => exact ⟨j + 1, _, rfl, by go_num, by omega, by rw [Htk.out, Hd.out]; simpa using Hh.out.2.1, Hh.out.1⟩
          case measure => clear i1; simp [intOf]; omega
      · have ho' : o.length = 256 := Classical.byContradiction fun h => hd (.inr (.inl h))
        have hb' : b.length = 256 := Classical.byContradiction fun h => hd (.inr (.inr h))
        have hwh := fun W => whole_yes i b W hrange.1 hrange.2 hb'
        simp only [Pat.v] at hwh
        have hyes := fun W => diff_yes i o b W hrange.1 hrange.2 ho' hb' (fun h => hd (.inl h))
        have Hlen := Lib.hid (And.intro ho' hb')
        generalize str o = So at *
        generalize hSb : str b = Sb at *
        have HSb := Lib.hid hSb
        clear hSb
        clear hd ho' hb'
        go_wp2_with fail
        refine wp_region_held_drew (S := (fun W' => Below w.heap.size w W' ∧ W'.ownsRow w.heap.size 57 3 u10 ps.length (flatP ps) ∧ wr.heap.size ≤ W'.heap.size)) (by kernel_rfl) (⟨below_dr Hbel.out, Hu.out.drew, Nat.le_refl _⟩) (fun hHeld => ?_)
        refine wpAnyH_take (i := 0) (v := ?_) rfl (by kernel_rfl) (by kernel_rfl) (by kernel_rfl) (fun _ _ _ h => h) (Or.inl ⟨by kernel_rfl, ?_⟩) hHeld ?_
        rotate_left
        · intro wq hSw
          have hSa := L1.out _ hSw.1; have hSb := L2.out _ hSw.1; have hSc := blk_cell (Hg.out.below hSw.1).grp; have hSd := (Hg.out.below hSw.1).lt1
          go_simp
          try rw [if_neg (by omega)]
          try rw [if_pos (by omega)]
          try with_reducible rfl
        try simp only [Act.put, List.getElem_toArray, List.getElem_cons_succ, List.getElem_cons_zero, List.setIfInBounds_toArray, List.set_cons_zero, List.set_cons_succ]
        refine wpAnyH_take (i := 1) (v := ?_) rfl (by kernel_rfl) (by kernel_rfl) (by kernel_rfl) (fun _ _ _ h => h) (Or.inl ⟨by kernel_rfl, ?_⟩) hHeld ?_
        rotate_left
        · intro wq hSw
          have hSa := L1.out _ hSw.1; have hSb := L2.out _ hSw.1; have hSc := blk_cell (Hg.out.below hSw.1).grp; have hSd := (Hg.out.below hSw.1).lt1
          go_simp
          try rw [if_neg (by omega)]
          try rw [if_pos (by omega)]
          try with_reducible rfl
        try simp only [Act.put, List.getElem_toArray, List.getElem_cons_succ, List.getElem_cons_zero, List.setIfInBounds_toArray, List.set_cons_zero, List.set_cons_succ]
        refine wpAnyH_take (i := 2) (v := ?_) rfl (by kernel_rfl) (by kernel_rfl) (by kernel_rfl) (fun _ _ _ h => h) (Or.inl ⟨by kernel_rfl, ?_⟩) hHeld ?_
        rotate_left
        · intro wq hSw
          have hSa := L1.out _ hSw.1; have hSb := L2.out _ hSw.1; have hSc := blk_cell (Hg.out.below hSw.1).grp; have hSd := (Hg.out.below hSw.1).lt1
          go_simp
          try rw [if_neg (by omega)]
          try rw [if_pos (by omega)]
          try with_reducible rfl
        try simp only [Act.put, List.getElem_toArray, List.getElem_cons_succ, List.getElem_cons_zero, List.setIfInBounds_toArray, List.set_cons_zero, List.set_cons_succ]
        refine wpAnyH_take (i := 3) (v := ?_) rfl (by kernel_rfl) (by kernel_rfl) (by kernel_rfl) (fun _ _ _ h => h) (Or.inl ⟨by kernel_rfl, ?_⟩) hHeld ?_
        rotate_left
        · intro wq hSw
          have hSa := L1.out _ hSw.1; have hSb := L2.out _ hSw.1; have hSc := blk_cell (Hg.out.below hSw.1).grp; have hSd := (Hg.out.below hSw.1).lt1
          go_simp
          try rw [if_neg (by omega)]
          try rw [if_pos (by omega)]
          try with_reducible rfl
        try simp only [Act.put, List.getElem_toArray, List.getElem_cons_succ, List.getElem_cons_zero, List.setIfInBounds_toArray, List.set_cons_zero, List.set_cons_succ]
        refine wpAnyH_take (i := 4) (v := ?_) rfl (by kernel_rfl) (by kernel_rfl) (by kernel_rfl) (fun _ _ _ h => h) (Or.inl ⟨by kernel_rfl, ?_⟩) hHeld ?_
        rotate_left
        · intro wq hSw
          have hSa := L1.out _ hSw.1; have hSb := L2.out _ hSw.1; have hSc := blk_cell (Hg.out.below hSw.1).grp; have hSd := (Hg.out.below hSw.1).lt1
          go_simp
          try rw [if_neg (by omega)]
          try rw [if_pos (by omega)]
          try with_reducible rfl
        try simp only [Act.put, List.getElem_toArray, List.getElem_cons_succ, List.getElem_cons_zero, List.setIfInBounds_toArray, List.set_cons_zero, List.set_cons_succ]
        refine wpAnyH_take (i := 5) (v := ?_) rfl (by kernel_rfl) (by kernel_rfl) (by kernel_rfl) (fun _ _ _ h => h) (Or.inl ⟨by kernel_rfl, ?_⟩) hHeld ?_
        rotate_left
        · intro wq hSw
          have hSa := L1.out _ hSw.1; have hSb := L2.out _ hSw.1; have hSc := blk_cell (Hg.out.below hSw.1).grp; have hSd := (Hg.out.below hSw.1).lt1
          go_simp
          try rw [if_neg (by omega)]
          try rw [if_pos (by omega)]
          try with_reducible rfl
        try simp only [Act.put, List.getElem_toArray, List.getElem_cons_succ, List.getElem_cons_zero, List.setIfInBounds_toArray, List.set_cons_zero, List.set_cons_succ]
        refine wpAnyH_take (i := 6) (v := ?_) rfl (by kernel_rfl) (by kernel_rfl) (by kernel_rfl) (fun _ _ _ h => h) (Or.inl ⟨by kernel_rfl, ?_⟩) hHeld ?_
        rotate_left
        · intro wq hSw
          have hSa := L1.out _ hSw.1; have hSb := L2.out _ hSw.1; have hSc := blk_cell (Hg.out.below hSw.1).grp; have hSd := (Hg.out.below hSw.1).lt1
          go_simp
          try rw [if_neg (by omega)]
          try rw [if_pos (by omega)]
          try with_reducible rfl
        try simp only [Act.put, List.getElem_toArray, List.getElem_cons_succ, List.getElem_cons_zero, List.setIfInBounds_toArray, List.set_cons_zero, List.set_cons_succ]
        refine wpAnyH_take (i := 7) (v := ?_) rfl (by kernel_rfl) (by kernel_rfl) (by kernel_rfl) (fun _ _ _ h => h) (Or.inl ⟨by kernel_rfl, ?_⟩) hHeld ?_
        rotate_left
        · intro wq hSw
          have hSa := L1.out _ hSw.1; have hSb := L2.out _ hSw.1; have hSc := blk_cell (Hg.out.below hSw.1).grp; have hSd := (Hg.out.below hSw.1).lt1
          go_simp
          try rw [if_neg (by omega)]
          try rw [if_pos (by omega)]
          try with_reducible rfl
        try simp only [Act.put, List.getElem_toArray, List.getElem_cons_succ, List.getElem_cons_zero, List.setIfInBounds_toArray, List.set_cons_zero, List.set_cons_succ]
        refine wpAnyH_take (i := 8) (v := ?_) rfl (by kernel_rfl) (by kernel_rfl) (by kernel_rfl) (fun _ _ _ h => h) (Or.inl ⟨by kernel_rfl, ?_⟩) hHeld ?_
        rotate_left
        · intro wq hSw
          have hSa := L1.out _ hSw.1; have hSb := L2.out _ hSw.1; have hSc := blk_cell (Hg.out.below hSw.1).grp; have hSd := (Hg.out.below hSw.1).lt1
          go_simp
          try rw [if_neg (by omega)]
          try rw [if_pos (by omega)]
          try with_reducible rfl
        try simp only [Act.put, List.getElem_toArray, List.getElem_cons_succ, List.getElem_cons_zero, List.setIfInBounds_toArray, List.set_cons_zero, List.set_cons_succ]
        refine wpAnyH_take (i := 9) (v := ?_) rfl (by kernel_rfl) (by kernel_rfl) (by kernel_rfl) (fun _ _ _ h => h) (Or.inl ⟨by kernel_rfl, ?_⟩) hHeld ?_
        rotate_left
        · intro wq hSw
          have hSa := L1.out _ hSw.1; have hSb := L2.out _ hSw.1; have hSc := blk_cell (Hg.out.below hSw.1).grp; have hSd := (Hg.out.below hSw.1).lt1
          go_simp
          try rw [if_neg (by omega)]
          try rw [if_pos (by omega)]
          try with_reducible rfl
        try simp only [Act.put, List.getElem_toArray, List.getElem_cons_succ, List.getElem_cons_zero, List.setIfInBounds_toArray, List.set_cons_zero, List.set_cons_succ]
        refine wpAnyH_ready (rs := [10, 14]) (by kernel_rfl) (by simp) ?_
        refine AllReadyH.cons rfl (fun K hK => ?_) (AllReadyH.cons rfl (fun K hK => ?_) AllReadyH.nil)
        · rw [if_pos (by kernel_rfl)]
          go_simp
          (with_reducible refine (hyes _).mono ?_)
          rintro e w2 ⟨ff, tt, hdi, rfl, hb2⟩
          simp only [Pat.v]
          have hw2s := And.intro (below_base hHeld.1 hHeld.1.size hb2) (And.intro (own_below hHeld.2.1 hb2) (Nat.le_trans hHeld.2.2 hb2.size))
          first | (have k2 : w2.heap[wr.heap.size]? = some (.cells #[.int .i64 0, .int .i64 0, .string ⟨#[]⟩] 57 (0, 0)) := (hb2.block wr.heap.size (by show wr.heap.size < (wr.alloc zqo).heap.size; simp)).trans (heap_alloc_new wr zqo); have c2 := blk_cell k2; have f2 := blk_free k2; have z2 := lt_of_block k2) | skip
          go_simp
          refine hK.out _ _ (⟨below_base hHeld.1 hHeld.1.size hb2, own_below hHeld.2.1 hb2, Nat.le_trans hHeld.2.2 hb2.size⟩) (fun hHeld2 => ?_)
          clear hK K
          try clear hHeld
          have hHeld := hHeld2
          try clear hHeld2
          refine wpAnyH_take (i := 11) (v := ?_) rfl (by kernel_rfl) (by kernel_rfl) (by kernel_rfl) (fun _ _ _ h => h) (Or.inl ⟨by kernel_rfl, ?_⟩) hHeld ?_
          rotate_left
          · intro wq hSw
            have hSa := L1.out _ hSw.1; have hSb := L2.out _ hSw.1; have hSc := blk_cell (Hg.out.below hSw.1).grp; have hSd := (Hg.out.below hSw.1).lt1
            go_simp
            try rw [if_neg (by omega)]
            try rw [if_pos (by omega)]
            try with_reducible rfl
          try simp only [Act.put, List.getElem_toArray, List.getElem_cons_succ, List.getElem_cons_zero, List.setIfInBounds_toArray, List.set_cons_zero, List.set_cons_succ]
          refine wpAnyH_take (i := 12) (v := ?_) rfl (by kernel_rfl) (by kernel_rfl) (by kernel_rfl) (fun _ _ _ h => h) (Or.inl ⟨by kernel_rfl, ?_⟩) hHeld ?_
          rotate_left
          · intro wq hSw
            have hSa := L1.out _ hSw.1; have hSb := L2.out _ hSw.1; have hSc := blk_cell (Hg.out.below hSw.1).grp; have hSd := (Hg.out.below hSw.1).lt1
            go_simp
            try rw [if_neg (by omega)]
            try rw [if_pos (by omega)]
            try with_reducible rfl
          try simp only [Act.put, List.getElem_toArray, List.getElem_cons_succ, List.getElem_cons_zero, List.setIfInBounds_toArray, List.set_cons_zero, List.set_cons_succ]
          refine wpAnyH_take (i := 13) (v := ?_) rfl (by kernel_rfl) (by kernel_rfl) (by kernel_rfl) (fun _ _ _ h => h) (Or.inl ⟨by kernel_rfl, ?_⟩) hHeld ?_
          rotate_left
          · intro wq hSw
            have hSa := L1.out _ hSw.1; have hSb := L2.out _ hSw.1; have hSc := blk_cell (Hg.out.below hSw.1).grp; have hSd := (Hg.out.below hSw.1).lt1
            go_simp
            try rw [if_neg (by omega)]
            try rw [if_pos (by omega)]
            try with_reducible rfl
          try simp only [Act.put, List.getElem_toArray, List.getElem_cons_succ, List.getElem_cons_zero, List.setIfInBounds_toArray, List.set_cons_zero, List.set_cons_succ]
          refine wpAnyH_ready (rs := [14]) (by kernel_rfl) (by simp) ?_
          refine AllReadyH.cons rfl (fun K hK => ?_) AllReadyH.nil
          rw [if_pos (by kernel_rfl)]
          go_simp
          go_simp
          refine hK.out _ _ (⟨below_base hHeld.1 hHeld.1.size (below_al (Below.refl _ _) _), hHeld.2.1.alloc _, Nat.le_trans hHeld.2.2 (by simp)⟩) (fun hHeld2 => ?_)
          clear hK K
          try clear hHeld
          have hHeld := hHeld2
          try clear hHeld2
          refine wpAnyH_ready (rs := [15]) (by kernel_rfl) (by simp) ?_
          refine AllReadyH.cons rfl (fun K hK => ?_) AllReadyH.nil
          rw [if_pos (by kernel_rfl)]
          go_simp
          go_simp
          refine hK.out _ _ ((by first | exact ⟨below_set (below_set (below_set hHeld.1 Hbel.out.size) Hbel.out.size) Hbel.out.size, own_set3 hHeld.2.1 (fun g hg => Nat.ne_of_lt (own_lt Hu.out g hg)), by simpa using hHeld.2.2⟩ | exact ⟨hw2s.1.alloc hw2s.1.size _, hw2s.2.1.alloc _, Nat.le_trans hw2s.2.2 (by simp)⟩)) (fun hHeld2 => ?_)
          clear hK K
          try clear hHeld
          have hHeld := hHeld2
          try clear hHeld2
          refine wpAnyH_take (i := 16) (v := ?_) rfl (by kernel_rfl) (by kernel_rfl) (by kernel_rfl) (fun _ _ _ h => h) (Or.inl ⟨by kernel_rfl, ?_⟩) hHeld ?_
          rotate_left
          · intro wq hSw
            have hSa := L1.out _ hSw.1; have hSb := L2.out _ hSw.1; have hSc := blk_cell (Hg.out.below hSw.1).grp; have hSd := (Hg.out.below hSw.1).lt1
            go_simp
            try rw [if_neg (by omega)]
            try rw [if_pos (by omega)]
            try with_reducible rfl
          try simp only [Act.put, List.getElem_toArray, List.getElem_cons_succ, List.getElem_cons_zero, List.setIfInBounds_toArray, List.set_cons_zero, List.set_cons_succ]
          refine wpAnyH_done (by kernel_rfl) ?_ _
          have Hd := Lib.hid (diffP_some (i := i) Hlen.out.1 Hlen.out.2 hdi)
          obtain ⟨PB, hPBe⟩ : ∃ PB, PB = w2.heap.size := ⟨_, rfl⟩
          have hPB : wr.heap.size ≤ PB := by (rw [hPBe]; first | exact Nat.le_refl _ | exact hw2s.2.2)
          obtain ⟨w3, k3, hw3⟩ : ∃ w3 : World, w3.heap[(PB : Nat)]? = some (.cells #[.int .i64 i, .int .i64 (ff : Int), .string (str ((b.take tt).drop ff))] 57 (0, 0)) ∧ w3 = w2.alloc (.cells #[.int .i64 i, .int .i64 (ff : Int), .string (str ((b.take tt).drop ff))] 57) := ⟨_, by (rw [hPBe]; exact heap_alloc_new w2 _), rfl⟩
          rw [← hw3] at hHeld ⊢
          (try rw [← hPBe])
          have Hh := Lib.hid hHeld
          have c3 := blk_cell k3
          have z3 := lt_of_block k3
          have K3 := Lib.hid k3
          clear hHeld hw3 k3 hb2 hPBe
          have hz3 := Hh.out.1.size
          (go_wp2_with fail)
          with_reducible refine (Hcl.out _ Hh.out.1 i).mono ?_
          rintro e wz ⟨rfl, rfl⟩
          obtain ⟨Sd, hSd⟩ : ∃ Sd, Sd = str ((b.take tt).drop ff) := ⟨_, rfl⟩
          rcases hcl0 : cl with _ | _
          · (have HB := Lib.hid hcl0; clear hcl0 hSd; go_wp2_with (at_builtin; refine wpList_append_lies _ rfl (.tmp 91) (.tmp 93) _ rfl w.heap.size 57 i0 zqv 3 32 Tryd.underlying41 hif hz0 hz1 hz2 rfl (by decide) u10 ps.length (flatP ps) rfl (Hh.out.2.1.alloc _) ⟨wz.heap.size, 0, none⟩ 1 1 [.int .i64 i, .int .i64 (ff : Int), .string (str ((b.take tt).drop ff))] rfl rfl (cells_new _ _ rfl _ _) (by simp [Value.oneCell']) (by omega) (by unfold maxLen; omega) (by omega) (by simp; omega) _ rfl ?_; intro g1 c1 w7 ho1 hg1 hat1 hl1); have b7 := below_grown (below_al Hh.out.1 (.cells #[.int .i64 i, .int .i64 (ff : Int), .string (str ((b.take tt).drop ff))] 57)) (by simp; omega) Hh.out.2.1 hg1; go_roundw; (case rel => exact ⟨j + 1, _, rfl, by go_num, by omega, by rw [Htk.out, Hd.out]; simpa [flatP, Pat.cells, patW, HB.out, HSb.out] using ho1, b7⟩); (case measure => clear i1; simp [intOf]; omega))
          · (have HB := Lib.hid hcl0; clear hcl0 hSd; have hlkc := L2.out _ Hh.out.1; have hSc := blk_cell (Hg.out.below Hh.out.1).grp; have hSd := (Hg.out.below Hh.out.1).lt1; (go_wp2_with fail); with_reducible refine (hwh _).mono ?_; rintro e w4 ⟨rfl, hb4⟩; have k4 := blk_keep K3.out hb4; have f4 := blk_free k4; have z4 := lt_of_block k4; have c4 := blk_cell k4; clear c3 z3 hSc hSd hlkc; (go_upto_region 23 with fail); have h5 : w.heap.size ≤ PB := Nat.le_trans Hbel.out.size hPB; obtain ⟨w5, k5, hw5⟩ : ∃ w5 : World, w5.heap[(PB : Nat)]? = some (.cells #[.int .i64 i, .int .i64 0, .string Sb] 57 (0, 0)) ∧ w5 = (((w4.setCell ⟨PB, 0, none⟩ (.int .i64 i)).setCell ⟨PB, 1, none⟩ (.int .i64 0)).setCell ⟨PB, 2, none⟩ (.string Sb)) := ⟨_, set3_same k4 _ _ _, rfl⟩; have b5 : Below w.heap.size w w5 := (by (rw [hw5]; exact below_set (below_set (below_set (below_base Hh.out.1 hz3 hb4) h5) h5) h5)); have o5 : w5.ownsRow w.heap.size 57 3 u10 ps.length (flatP ps) := (by (rw [hw5]; exact own_set3 (own_below Hh.out.2.1 hb4) (fun g hg => Nat.ne_of_lt (Nat.lt_of_lt_of_le (own_lt Hu.out g hg) hPB)))); refine wp_world hw5 ?_; have c5 := blk_cell k5; have z5 := lt_of_block k5; have O5 := Lib.hid o5; have B5 := Lib.hid b5; have hz5 := b5.size; clear hw5 k5 k4 c4 f4 z4 b5 o5 hb4; go_wp2_with (at_builtin; refine wpList_append_lies _ rfl (.tmp 91) (.tmp 93) _ rfl w.heap.size 57 i0 zqv 3 32 Tryd.underlying41 hif hz0 hz1 hz2 rfl (by decide) u10 ps.length (flatP ps) rfl (O5.out.alloc _) ⟨w5.heap.size, 0, none⟩ 1 1 [.int .i64 i, .int .i64 0, .string Sb] rfl rfl (cells_new _ _ rfl _ _) (by simp [Value.oneCell']) (by omega) (by unfold maxLen; omega) (by omega) (by simp; omega) _ rfl ?_; intro g1 c1 w7 ho1 hg1 hat1 hl1); have b7 := below_grown (below_al B5.out (.cells #[.int .i64 i, .int .i64 0, .string Sb] 57)) (by simp; omega) O5.out hg1; go_roundw; (case rel => exact ⟨j + 1, _, rfl, by go_num, by omega, by rw [Htk.out, Hd.out]; simpa [flatP, Pat.cells, patW, HB.out, HSb.out] using ho1, b7⟩); (case measure => clear i1; simp [intOf]; omega))
        · rw [if_pos (by kernel_rfl)]
          go_simp
          go_simp
          refine hK.out _ _ (⟨below_base hHeld.1 hHeld.1.size (below_al (Below.refl _ _) _), hHeld.2.1.alloc _, Nat.le_trans hHeld.2.2 (by simp)⟩) (fun hHeld2 => ?_)
          clear hK K
          try clear hHeld
          have hHeld := hHeld2
          try clear hHeld2
          refine wpAnyH_ready (rs := [10]) (by kernel_rfl) (by simp) ?_
          refine AllReadyH.cons rfl (fun K hK => ?_) AllReadyH.nil
          rw [if_pos (by kernel_rfl)]
          go_simp
          (with_reducible refine (hyes _).mono ?_)
          rintro e w2 ⟨ff, tt, hdi, rfl, hb2⟩
          simp only [Pat.v]
          have hw2s := And.intro (below_base hHeld.1 hHeld.1.size hb2) (And.intro (own_below hHeld.2.1 hb2) (Nat.le_trans hHeld.2.2 hb2.size))
          first | (have k2 : w2.heap[wr.heap.size]? = some (.cells #[.int .i64 0, .int .i64 0, .string ⟨#[]⟩] 57 (0, 0)) := (hb2.block wr.heap.size (by show wr.heap.size < (wr.alloc zqo).heap.size; simp)).trans (heap_alloc_new wr zqo); have c2 := blk_cell k2; have f2 := blk_free k2; have z2 := lt_of_block k2) | skip
          go_simp
          refine hK.out _ _ (⟨below_base hHeld.1 hHeld.1.size hb2, own_below hHeld.2.1 hb2, Nat.le_trans hHeld.2.2 hb2.size⟩) (fun hHeld2 => ?_)
          clear hK K
          try clear hHeld
          have hHeld := hHeld2
          try clear hHeld2
          refine wpAnyH_take (i := 11) (v := ?_) rfl (by kernel_rfl) (by kernel_rfl) (by kernel_rfl) (fun _ _ _ h => h) (Or.inl ⟨by kernel_rfl, ?_⟩) hHeld ?_
          rotate_left
          · intro wq hSw
            have hSa := L1.out _ hSw.1; have hSb := L2.out _ hSw.1; have hSc := blk_cell (Hg.out.below hSw.1).grp; have hSd := (Hg.out.below hSw.1).lt1
            go_simp
            try rw [if_neg (by omega)]
            try rw [if_pos (by omega)]
            try with_reducible rfl
          try simp only [Act.put, List.getElem_toArray, List.getElem_cons_succ, List.getElem_cons_zero, List.setIfInBounds_toArray, List.set_cons_zero, List.set_cons_succ]
          refine wpAnyH_take (i := 12) (v := ?_) rfl (by kernel_rfl) (by kernel_rfl) (by kernel_rfl) (fun _ _ _ h => h) (Or.inl ⟨by kernel_rfl, ?_⟩) hHeld ?_
          rotate_left
          · intro wq hSw
            have hSa := L1.out _ hSw.1; have hSb := L2.out _ hSw.1; have hSc := blk_cell (Hg.out.below hSw.1).grp; have hSd := (Hg.out.below hSw.1).lt1
            go_simp
            try rw [if_neg (by omega)]
            try rw [if_pos (by omega)]
            try with_reducible rfl
          try simp only [Act.put, List.getElem_toArray, List.getElem_cons_succ, List.getElem_cons_zero, List.setIfInBounds_toArray, List.set_cons_zero, List.set_cons_succ]
          refine wpAnyH_take (i := 13) (v := ?_) rfl (by kernel_rfl) (by kernel_rfl) (by kernel_rfl) (fun _ _ _ h => h) (Or.inl ⟨by kernel_rfl, ?_⟩) hHeld ?_
          rotate_left
          · intro wq hSw
            have hSa := L1.out _ hSw.1; have hSb := L2.out _ hSw.1; have hSc := blk_cell (Hg.out.below hSw.1).grp; have hSd := (Hg.out.below hSw.1).lt1
            go_simp
            try rw [if_neg (by omega)]
            try rw [if_pos (by omega)]
            try with_reducible rfl
          try simp only [Act.put, List.getElem_toArray, List.getElem_cons_succ, List.getElem_cons_zero, List.setIfInBounds_toArray, List.set_cons_zero, List.set_cons_succ]
          refine wpAnyH_ready (rs := [15]) (by kernel_rfl) (by simp) ?_
          refine AllReadyH.cons rfl (fun K hK => ?_) AllReadyH.nil
          rw [if_pos (by kernel_rfl)]
          go_simp
          go_simp
          refine hK.out _ _ ((by first | exact ⟨below_set (below_set (below_set hHeld.1 Hbel.out.size) Hbel.out.size) Hbel.out.size, own_set3 hHeld.2.1 (fun g hg => Nat.ne_of_lt (own_lt Hu.out g hg)), by simpa using hHeld.2.2⟩ | exact ⟨hw2s.1.alloc hw2s.1.size _, hw2s.2.1.alloc _, Nat.le_trans hw2s.2.2 (by simp)⟩)) (fun hHeld2 => ?_)
          clear hK K
          try clear hHeld
          have hHeld := hHeld2
          try clear hHeld2
          refine wpAnyH_take (i := 16) (v := ?_) rfl (by kernel_rfl) (by kernel_rfl) (by kernel_rfl) (fun _ _ _ h => h) (Or.inl ⟨by kernel_rfl, ?_⟩) hHeld ?_
          rotate_left
          · intro wq hSw
            have hSa := L1.out _ hSw.1; have hSb := L2.out _ hSw.1; have hSc := blk_cell (Hg.out.below hSw.1).grp; have hSd := (Hg.out.below hSw.1).lt1
            go_simp
            try rw [if_neg (by omega)]
            try rw [if_pos (by omega)]
            try with_reducible rfl
          try simp only [Act.put, List.getElem_toArray, List.getElem_cons_succ, List.getElem_cons_zero, List.setIfInBounds_toArray, List.set_cons_zero, List.set_cons_succ]
          refine wpAnyH_done (by kernel_rfl) ?_ _
          have Hd := Lib.hid (diffP_some (i := i) Hlen.out.1 Hlen.out.2 hdi)
          obtain ⟨PB, hPBe⟩ : ∃ PB, PB = wr.heap.size := ⟨_, rfl⟩
          have hPB : wr.heap.size ≤ PB := by (rw [hPBe]; first | exact Nat.le_refl _ | exact hw2s.2.2)
          obtain ⟨w3, k3, hw3⟩ : ∃ w3 : World, w3.heap[(PB : Nat)]? = some (.cells #[.int .i64 i, .int .i64 (ff : Int), .string (str ((b.take tt).drop ff))] 57 (0, 0)) ∧ w3 = (((w2.setCell ⟨wr.heap.size, 0, none⟩ (.int .i64 i)).setCell ⟨wr.heap.size, 1, none⟩ (.int .i64 (ff : Int))).setCell ⟨wr.heap.size, 2, none⟩ (.string (str ((b.take tt).drop ff)))) := ⟨_, by (rw [hPBe]; exact set3_same k2 _ _ _), rfl⟩
          rw [← hw3] at hHeld ⊢
          (try rw [← hPBe])
          have Hh := Lib.hid hHeld
          have c3 := blk_cell k3
          have z3 := lt_of_block k3
          have K3 := Lib.hid k3
          clear hHeld hw3 k3 hb2 hPBe
          have hz3 := Hh.out.1.size
          (go_wp2_with fail)
          with_reducible refine (Hcl.out _ Hh.out.1 i).mono ?_
          rintro e wz ⟨rfl, rfl⟩
          obtain ⟨Sd, hSd⟩ : ∃ Sd, Sd = str ((b.take tt).drop ff) := ⟨_, rfl⟩
          rcases hcl0 : cl with _ | _
          · (have HB := Lib.hid hcl0; clear hcl0 hSd; go_wp2_with (at_builtin; refine wpList_append_lies _ rfl (.tmp 91) (.tmp 93) _ rfl w.heap.size 57 i0 zqv 3 32 Tryd.underlying41 hif hz0 hz1 hz2 rfl (by decide) u10 ps.length (flatP ps) rfl (Hh.out.2.1.alloc _) ⟨wz.heap.size, 0, none⟩ 1 1 [.int .i64 i, .int .i64 (ff : Int), .string (str ((b.take tt).drop ff))] rfl rfl (cells_new _ _ rfl _ _) (by simp [Value.oneCell']) (by omega) (by unfold maxLen; omega) (by omega) (by simp; omega) _ rfl ?_; intro g1 c1 w7 ho1 hg1 hat1 hl1); have b7 := below_grown (below_al Hh.out.1 (.cells #[.int .i64 i, .int .i64 (ff : Int), .string (str ((b.take tt).drop ff))] 57)) (by simp; omega) Hh.out.2.1 hg1; go_roundw; (case rel => exact ⟨j + 1, _, rfl, by go_num, by omega, by rw [Htk.out, Hd.out]; simpa [flatP, Pat.cells, patW, HB.out, HSb.out] using ho1, b7⟩); (case measure => clear i1; simp [intOf]; omega))
          · (have HB := Lib.hid hcl0; clear hcl0 hSd; have hlkc := L2.out _ Hh.out.1; have hSc := blk_cell (Hg.out.below Hh.out.1).grp; have hSd := (Hg.out.below Hh.out.1).lt1; (go_wp2_with fail); with_reducible refine (hwh _).mono ?_; rintro e w4 ⟨rfl, hb4⟩; have k4 := blk_keep K3.out hb4; have f4 := blk_free k4; have z4 := lt_of_block k4; have c4 := blk_cell k4; clear c3 z3 hSc hSd hlkc; (go_upto_region 23 with fail); have h5 : w.heap.size ≤ PB := Nat.le_trans Hbel.out.size hPB; obtain ⟨w5, k5, hw5⟩ : ∃ w5 : World, w5.heap[(PB : Nat)]? = some (.cells #[.int .i64 i, .int .i64 0, .string Sb] 57 (0, 0)) ∧ w5 = (((w4.setCell ⟨PB, 0, none⟩ (.int .i64 i)).setCell ⟨PB, 1, none⟩ (.int .i64 0)).setCell ⟨PB, 2, none⟩ (.string Sb)) := ⟨_, set3_same k4 _ _ _, rfl⟩; have b5 : Below w.heap.size w w5 := (by (rw [hw5]; exact below_set (below_set (below_set (below_base Hh.out.1 hz3 hb4) h5) h5) h5)); have o5 : w5.ownsRow w.heap.size 57 3 u10 ps.length (flatP ps) := (by (rw [hw5]; exact own_set3 (own_below Hh.out.2.1 hb4) (fun g hg => Nat.ne_of_lt (Nat.lt_of_lt_of_le (own_lt Hu.out g hg) hPB)))); refine wp_world hw5 ?_; have c5 := blk_cell k5; have z5 := lt_of_block k5; have O5 := Lib.hid o5; have B5 := Lib.hid b5; have hz5 := b5.size; clear hw5 k5 k4 c4 f4 z4 b5 o5 hb4; go_wp2_with (at_builtin; refine wpList_append_lies _ rfl (.tmp 91) (.tmp 93) _ rfl w.heap.size 57 i0 zqv 3 32 Tryd.underlying41 hif hz0 hz1 hz2 rfl (by decide) u10 ps.length (flatP ps) rfl (O5.out.alloc _) ⟨w5.heap.size, 0, none⟩ 1 1 [.int .i64 i, .int .i64 0, .string Sb] rfl rfl (cells_new _ _ rfl _ _) (by simp [Value.oneCell']) (by omega) (by unfold maxLen; omega) (by omega) (by simp; omega) _ rfl ?_; intro g1 c1 w7 ho1 hg1 hat1 hl1); have b7 := below_grown (below_al B5.out (.cells #[.int .i64 i, .int .i64 0, .string Sb] 57)) (by simp; omega) O5.out hg1; go_roundw; (case rel => exact ⟨j + 1, _, rfl, by go_num, by omega, by rw [Htk.out, Hd.out]; simpa [flatP, Pat.cells, patW, HB.out, HSb.out] using ho1, b7⟩); (case measure => clear i1; simp [intOf]; omega))
    · obtain rfl : j = l.length := by omega
      rw [List.take_length] at hu
      have Hu := Lib.hid (row_mono hu hsz0)
      have Hbel := Lib.hid (Hb.out.trans (hbel.mono hsz0))
      clear hu hbel
      go_wp2_with fail
      go_ret
      exact ⟨_, l, rfl, HlM.out.1, HlM.out.2, Hu.out, Hbel.out⟩
set_option maxRecDepth 1000000 in
set_option maxHeartbeats 8000000 in
theorem from9c (w w0 : World) (cl : Bool) (cb : Nat) (hcb : w.heap[cb]? = some (.cells #[.bool cl] 4 (0, 0))) (gb mb sb qb n c : Nat) (dead : Int) (B : Nat → List UInt8) (M : Int → Option (List UInt8)) (tk : Int) (lv : Value) (l : List Int) (hl : w.ownsRow w0.heap.size 3 1 lv l.length (ints l)) (hlt : l.Pairwise (· < ·)) (hlM : ∀ i, i ∈ l ↔ M i ≠ none) (hll : l.length ≤ 64) (hs : Sto w sb qb n c dead B) (hg : Grp w gb mb sb M tk) (hb : Below w0.heap.size w0 w)
    (u2 u3 u4 u6 u7 u8 u9 u10 u11 u12 u13 u14 u15 u16 u17 u18 u19 u20 u21 u22 u23 u24 u25 u26 u27 u28 u29 u30 u31 u32 u33 u34 u35 u36 u37 u38 u39 u40 u41 u42 u43 u44 u45 u46 u47 u48 u49 u50 u51 u52 u53 u54 u55 u56 u57 u58 u59 u60 u61 u62 u63 u64 u65 u66 u67 u68 u69 u70 u71 u72 u73 u74 u75 u76 u77 u78 u79 u80 u81 u82 u83 u84 u85 u86 u87 u88 u89 u90 u91 u92 u93 u94 u95 u96 : Value) :
    Code.wp Tryd.prog cFrom9 (bodyPost Tryd.prog Tryd.f15 (PatPostC cl w0 n dead B M)) ⟨#[.pointer (some ⟨gb, 0, none⟩), (fv cb), u2, u3, u4, lv, u6, u7, u8, u9, u10, u11, u12, u13, u14, u15, u16, u17, u18, u19, u20, u21, u22, u23, u24, u25, u26, u27, u28, u29, u30, u31, u32, u33, u34, u35, u36, u37, u38, u39, u40, u41, u42, u43, u44, u45, u46, u47, u48, u49, u50, u51, u52, u53, u54, u55, u56, u57, u58, u59, u60, u61, u62, u63, u64, u65, u66, u67, u68, u69, u70, u71, u72, u73, u74, u75, u76, u77, u78, u79, u80, u81, u82, u83, u84, u85, u86, u87, u88, u89, u90, u91, u92, u93, u94, u95, u96], []⟩ w := by
  have hmk : ∀ W : World, (Instr.makeMap 64 none).run Tryd.prog W = .ok (.map (some W.heap.size)) (W.alloc (.map #[] 0)) := fun W => run_makeMap _ W
  have hor := fun i => hs.rd_len i
  have hlr : ∀ i, i ∈ l → 0 ≤ i ∧ i < 64 := fun i hi => by
    rcases e : M i with _ | b
    · exact absurd e ((hlM i).1 hi)
    · have := hg.map.rng i b e
      exact ⟨this.1, this.2.1⟩
  have hb1 := below_al (Below.refl _ w) (.map #[] 0)
  have hne : gb ≠ w.heap.size ∧ mb ≠ w.heap.size ∧ sb ≠ w.heap.size ∧ qb ≠ w.heap.size ∧ ∀ g, lv.ownBlock = some g → g ≠ w.heap.size :=
    ⟨Nat.ne_of_lt hg.lt1, Nat.ne_of_lt hg.lt2, Nat.ne_of_lt hs.lt1, Nat.ne_of_lt hs.lt2, fun g h => Nat.ne_of_lt (own_lt hl g h)⟩
  have H := Lib.hid (And.intro hl (And.intro hs (And.intro hg (And.intro hb (And.intro hne (And.intro hlr (And.intro hlt hlM)))))))
  have HB := Lib.hid hb1
  have hcb0 := hcb
  obtain ⟨la, lc, rfl⟩ := own_slice hl
  have Hcb := Lib.hid (blk_keep hcb hb1)
  clear hl hs hg hb hne hlr hlt hlM hb1 hcb
  conv => arg 2; whnf
  go_upto_block 2 with fail
  refine loop2_any (w.alloc (.map #[] 0)) w0 gb mb sb qb n c w.heap.size dead B M tk (.slice la l.length lc) l (own_below H.out.1 HB.out) H.out.2.2.2.2.2.1 hll (H.out.2.1.below HB.out) (MapIs.made w) (H.out.2.2.2.1.size) (H.out.2.2.1.below HB.out) H.out.2.2.2.2.1 _ _ _ _ _ _ _ _ _ _ _ _ _ _ _ _ _ _ _ _ _ _ _ _ _ _ _ _ _ _ _ _ _ _ _ _ _ _ _ _ _ _ _ _ _ _ _ _ _ _ _ _ _ _ _ _ _ _ _ _ _ _ _ _ _ _ _ _ _ _ _ _ _ _ _ _ _ _ _ _ _ _ _ _ _ _ _ _ _ _ _ _ _ (Lib.hid (fun c a d v w h => by cases d <;> exact h)) (Lib.hid ?_)
  intro v9 v36 v37 v38 v39 v40 v41 v42 v43 v44 v45 v46 v47 v48 v49 v50 w35 w2 hm2 hk2
  have hk := hk2
  dsimp only [Exit.then]
  apply_assumption
  have hne := H.out.2.2.2.2.1
  exact from15c w2 w0 cl cb (hk.blk Hcb.out (fun e => by have := lt_of_block hcb0; omega)) gb mb sb n w.heap.size dead B M tk (.slice la l.length lc) l (hk.row (own_below H.out.1 HB.out) hne.2.2.2.2) H.out.2.2.2.2.2.2.1 H.out.2.2.2.2.2.2.2 hll hor hm2 ((H.out.2.2.1.below HB.out).keep hk hne.1 hne.2.1) (below_keep (below_base H.out.2.2.2.1 H.out.2.2.2.1.size HB.out) (by have := H.out.2.2.2.1.size; simp; omega) hk (fun i hi => by rw [hi]; exact H.out.2.2.2.1.size)) _ _ _ _ _ _ _ _ _ _ _ _ _ _ _ _ _ _ _ _ _ _ _ _ _ _ _ _ _ _ _ _ _ _ _ _ _ _ _ _ _ _ _ _ _ _ _ _ _ _ _ _ _ _ _ _ _ _ _ _ _ _ _ _ _ _ _ _ _ _ _ _ _ _ _ _ _ _ _ _ _ _ _ _ _ _ _ _ _ _ _ _ _
set_option maxRecDepth 1000000 in
set_option maxHeartbeats 8000000 in
theorem gpatches_clo (w : World) (cl : Bool) (cb : Nat) (hcb : w.heap[cb]? = some (.cells #[.bool cl] 4 (0, 0))) (gb mb sb qb n c : Nat) (dead : Int) (B : Nat → List UInt8) (M : Int → Option (List UInt8)) (tk : Int) (hs : Sto w sb qb n c dead B) (hg : Grp w gb mb sb M tk) :
    Calls Tryd.prog 15 #[.pointer (some ⟨gb, 0, none⟩), (fv cb)] w (PatPostC cl w n dead B M) := by
  obtain ⟨w1, ks, hrun, hit, hgr, hsz, hnd, hks⟩ := Iter.start hg.map
  have hlen : ks.length ≤ 64 := nodup_le 64 ks hnd (fun i hi => by
    rcases e : M i with _ | b
    · exact absurd e ((hks i).1 hi)
    · have := hg.map.rng i b e
      exact ⟨this.1, this.2.1⟩)
  have hmr := hg.lt2
  have cg := blk_cell hg.grp
  have zg := hg.lt1
  have Hit := Lib.hid hit
  have Hsz := Lib.hid hsz
  have Hg := Lib.hid hg
  have Hs := Lib.hid hs
  have Hk := Lib.hid (And.intro hnd hks)
  have HB := Lib.hid (below_none hgr)
  have Hcb := Lib.hid hcb
  clear hit hsz hg hs hnd hks hgr hcb
  go_enter Tryd.func15, Tryd.ntmps15
  go_upto_block 0 with fail
  refine loop1_any w1 mb w.heap.size ks Hit.out hmr Hsz.out.symm hlen _ _ _ _ _ _ _ _ _ _ _ _ _ _ _ _ _ _ _ _ _ _ _ _ _ _ _ _ _ _ _ _ _ _ _ _ _ _ _ _ _ _ _ _ _ _ _ _ _ _ _ _ _ _ _ _ _ _ _ _ _ _ _ _ _ _ _ _ _ _ _ _ _ _ _ _ _ _ _ _ _ _ _ _ _ _ _ _ _ _ _ _ _ _ _ _ (Lib.hid (fun c a d v w h => by cases d <;> exact h)) (Lib.hid ?_)
  intro v6 v22 v23 v24 v25 v26 v27 v28 v29 lv dn w2 hown hperm hbel
  have hb2 : Below w.heap.size w w2 := HB.out.trans hbel
  have Hown := Lib.hid (row_mono hown (Nat.le_succ _))
  have Hb2 := Lib.hid hb2
  have Hp := Lib.hid hperm
  clear hown hbel hb2 hperm cg zg hrun
  dsimp only [Exit.then]
  apply_assumption
  refine wp_seq_k fun K hK0 => ?_
  have hK := Lib.hid hK0
  clear hK0
  go_wp2_with fail
  with_reducible refine (sort_own w2 w.heap.size dn.length lv dn Hown.out (by have := Hp.out.length_eq; omega)).mono ?_
  rintro e w3 ⟨rfl, ho3, hg3⟩
  have hb3 := Hb2.out.grown hg3 Hb2.out.size (fun k hk => own_base Hown.out k hk)
  have hl3 : (dn.mergeSort fun x y => decide (x ≤ y)).length = dn.length := (List.mergeSort_perm dn _).length_eq
  rw [← hl3] at ho3
  have hne : ∀ x, x < w.heap.size → lv.ownBlock ≠ some x := fun x hx h => by have := own_base Hown.out x h; omega
  have G3 := Lib.hid (Hg.out.below hb3)
  have S3 := Lib.hid (Hs.out.below hb3)
  have H3 := Lib.hid (And.intro ho3 hb3)
  have Hb3 := Lib.hid hb3
  clear ho3 hg3 hb3 hne
  go_wp2_with fail
  refine hK.out _ _ ?_
  exact from9c w3 w cl cb (blk_keep Hcb.out Hb3.out) gb mb sb qb n c dead B M tk lv (dn.mergeSort fun x y => decide (x ≤ y)) H3.out.1 (sorted_lt Hp.out Hk.out.1) (fun i => by rw [List.mem_mergeSort, Hp.out.mem_iff]; exact Hk.out.2 i) (by rw [hl3]; have := Hp.out.length_eq; omega) S3.out G3.out H3.out.2 _ _ _ _ _ _ _ _ _ _ _ _ _ _ _ _ _ _ _ _ _ _ _ _ _ _ _ _ _ _ _ _ _ _ _ _ _ _ _ _ _ _ _ _ _ _ _ _ _ _ _ _ _ _ _ _ _ _ _ _ _ _ _ _ _ _ _ _ _ _ _ _ _ _ _ _ _ _ _ _ _ _ _ _ _ _ _ _ _ _ _ _ _ _
end Go.Proofs.YtibbmmkjienekaaDoor.Gr
