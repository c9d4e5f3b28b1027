/- Lemmas of the claim, in their order:
- Patches of a group, in pieces: the first two loops; the whole. (Printed by tools/gen_gr.py.)
-/
import Derived.Test.YtijhamllnnilbaaGreatDoorU38
import Derived.OwnWalk
import Derived.Carry
import Derived.RegionTactic
import Derived.Deep.RegionLaw
import Derived.Deep.RegionLawGrows
set_option linter.unusedVariables false
set_option linter.unusedSimpArgs false
namespace Go.Proofs.YtijhamllnnilbaaGreatDoor.Gr
open Go.RowKit Go.Proofs.YtijhamllnnilbaaGreatDoor.Mem Go.Proofs.YtijhamllnnilbaaGreatDoor.Pg Go.Proofs.YtijhamllnnilbaaGreatDoor.Kp
set_option linter.unusedSimpArgs false
set_option linter.unusedVariables false
set_option maxRecDepth 1000000 in
set_option maxHeartbeats 8000000 in
theorem loop2_any (w w0 : World) (gb mb sb qb n c ob : Nat) (dead : Int) (B : Nat → List UInt8) (M : Int → Option (List UInt8)) (tk : Int) (lv : Value) (l : List Int) (hl : w.ownsRow w0.heap.size 3 1 lv l.length (ints l)) (hlr : ∀ i, i ∈ l → 0 ≤ i ∧ i < 64) (hll : l.length ≤ 64) (hs : Sto w sb qb n c dead B) (ho : MapIs w ob (fun _ => none)) (hob : w0.heap.size ≤ ob) (hg : Grp w gb mb sb M tk) (hne : gb ≠ ob ∧ mb ≠ ob ∧ sb ≠ ob ∧ qb ≠ ob ∧ ∀ g, lv.ownBlock = some g → g ≠ ob)
    (u1 u2 u3 u4 u5 u6 u8 u9 u10 u11 u12 u13 u14 u15 u16 u17 u18 u19 u20 u21 u22 u23 u24 u25 u26 u27 u28 u29 u30 u31 u32 u36 u37 u38 u39 u40 u41 u42 u43 u44 u45 u46 u47 u48 u49 u50 u51 u52 u53 u54 u55 u56 u57 u58 u59 u60 u61 u62 u63 u64 u65 u66 u67 u68 u69 u70 u71 u72 u73 u74 u75 u76 u77 u78 u79 u80 u81 u82 u83 u84 u85 u86 u87 u88 u89 u90 u91 u92 u93 u94 u95 u96 : Value) (R : Exit → Act → World → Prop) (hP : Hid (∀ c a d v w, R (.panic c) (Act.put a d v) w → R (.panic c) a w))
    (hR : Hid (∀ (v9 v36 v37 v38 v39 v40 v41 v42 v43 v44 v45 v46 v47 v48 v49 v50 : Value) (w35 : Value) (w' : World), MapIs w' ob (oldF n dead B l) → Keep (fun k => k = ob) w w' → R .normal ⟨#[.pointer (some ⟨gb, 0, none⟩), u1, u2, u3, u4, u5, u6, .map (some ob), u8, v9, u10, u11, u12, u13, u14, u15, u16, u17, u18, u19, u20, u21, u22, u23, u24, u25, u26, u27, u28, u29, u30, u31, u32, lv, .int .i64 l.length, w35, v36, v37, v38, v39, v40, v41, v42, v43, v44, v45, v46, v47, v48, v49, v50, u51, u52, u53, u54, u55, u56, u57, u58, u59, u60, u61, u62, u63, u64, u65, u66, u67, u68, u69, u70, u71, u72, u73, u74, u75, u76, u77, u78, u79, u80, u81, u82, u83, u84, u85, u86, u87, u88, u89, u90, u91, u92, u93, u94, u95, u96], []⟩ w')) :
    Code.wp Tryz.prog cB2 R ⟨#[.pointer (some ⟨gb, 0, none⟩), u1, u2, u3, u4, u5, u6, .map (some ob), u8, u9, u10, u11, u12, u13, u14, u15, u16, u17, u18, u19, u20, u21, u22, u23, u24, u25, u26, u27, u28, u29, u30, u31, u32, lv, .int .i64 l.length, .int .i64 0, u36, u37, u38, u39, u40, u41, u42, u43, u44, u45, u46, u47, u48, u49, u50, u51, u52, u53, u54, u55, u56, u57, u58, u59, u60, u61, u62, u63, u64, u65, u66, u67, u68, u69, u70, u71, u72, u73, u74, u75, u76, u77, u78, u79, u80, u81, u82, u83, u84, u85, u86, u87, u88, u89, u90, u91, u92, u93, u94, u95, u96], []⟩ w := by
  have Hl := Lib.hid hl
  have Hs := Lib.hid hs
  have Hg := Lib.hid hg
  have Ho := Lib.hid ho
  have Hr := Lib.hid hlr
  have Hne := Lib.hid hne
  obtain ⟨la, lc, rfl⟩ := own_slice hl
  clear hl hs hg ho hlr hne
  have k0 := Lib.hid (Keep.refl (fun k => k = ob) w)
  have m0 : Hid (MapIs w ob (oldF n dead B (l.take 0))) := Lib.hid (by
    have e : oldF n dead B (l.take 0) = fun _ => none := by funext i; simp [oldF]
    rw [e]; exact Ho.out)
  conv => arg 2; whnf
  go_wp2_with fail
  go_loopw [35] (fun i wr => ∃ j : Nat, i = .int .i64 j ∧ j ≤ l.length ∧ Hid (MapIs wr ob (oldF n dead B (l.take j))) ∧ Hid (Keep (fun k => k = ob) w wr)) (fun i _ => l.length - (intOf i).toNat)
  case atStart => exact ⟨0, rfl, Nat.zero_le _, m0, k0⟩
  case round =>
    clear m0 k0
    obtain ⟨j, rfl, hj, hm, hk⟩ := hrel
    by_cases hlt : j < l.length
    · obtain ⟨lb, rfl⟩ : ∃ lb, la = some ⟨lb, 0, none⟩ := by
        rcases Hl.out.2 with ⟨h1, h2⟩ | ⟨g, cap, cur, h1, _⟩
        · omega
        · injection h1 with h1 _ _
          exact ⟨g, h1⟩
      have hlbo : lb ≠ ob := Hne.out.2.2.2.2 lb rfl
      obtain ⟨i, hi⟩ : ∃ i, i = l[j] := ⟨_, rfl⟩
      have hcell0 := own_at Hl.out j (.int .i64 i) (by rw [ints, List.getElem?_map, List.getElem?_eq_getElem hlt, hi]; rfl)
      have hcell := (hk.out.cell (o := j) (own_lt Hl.out lb rfl) hlbo).trans hcell0
      have hrange := Hr.out i (by rw [hi]; exact List.getElem_mem _)
      have hzb : lb < wr.heap.size := Nat.lt_of_lt_of_le (own_lt Hl.out lb rfl) hk.out.size
      have d1 : decide ((j : Int) < (l.length : Int)) = true := by simpa using hlt
      have d2 : decide (j < l.length) = true := by simpa using hlt
      have hlt' : (j : Int) < (l.length : Int) := by omega
      have hg1 := Hg.out.keep hk.out Hne.out.1 Hne.out.2.1
      have hs1 := Hs.out.keep hk.out Hne.out.2.2.1 Hne.out.2.2.2.1
      have cg := blk_cell hg1.grp
      have zg := hg1.lt1
      have hrd := read_any wr sb qb n c dead B i hs1
      have hlen := hs1.rd_len i
      obtain ⟨w3, hrun, hmap, hgr⟩ := hm.out.put i hrange.1 hrange.2 (rd n dead B i).1 (by omega)
      have e : upd (oldF n dead B (l.take j)) i (rd n dead B i).1 = oldF n dead B (l.take (j + 1)) := by
        funext x
        unfold upd oldF
        rw [List.take_succ_eq_append_getElem hlt, ← hi]
        by_cases hx : x = i
        · subst hx; simp
        · simp [hx]
      rw [e] at hmap
      have Hm3 := Lib.hid hmap
      have Hk3 := Lib.hid (hk.out.trans (Keep.grown hgr (fun k hk => (Option.some.inj hk).symm)))
      have i1 : IntKind.i64.wrap ((j : Int) + 1) = (j : Int) + 1 := IntWalk.i64_in _ (by omega)
      generalize str (rd n dead B i).1 = So at *
      generalize (rd n dead B i).2 = Se at *
      clear hcell0 hi hg1 hs1 hlen hmap hgr e hm hk hlt hrange
      go_wp2_with fail
      with_reducible refine hrd.mono ?_
      rintro e w2 ⟨rfl, rfl⟩
      go_wp2_with fail
      go_roundw
      case rel => exact ⟨j + 1, by go_num, by omega, Hm3, Hk3⟩
      case measure => clear i1; simp [intOf]; omega
    · obtain rfl : j = l.length := by omega
      rw [List.take_length] at hm
      go_wp2_with fail
      with_reducible refine hR.out _ _ _ _ _ _ _ _ _ _ _ _ _ _ _ _ _ _ hm.out hk.out
set_option maxRecDepth 1000000 in
set_option maxHeartbeats 8000000 in
theorem loop1_any (w : World) (mb r : Nat) (ks : List Int) (hit : Iter w mb r ks) (hmr : mb < r) (hr1 : r + 1 = w.heap.size) (hlen : ks.length ≤ 64)
    (u0 u1 u2 u3 u4 u6 u7 u8 u9 u10 u11 u12 u13 u14 u15 u16 u17 u18 u19 u20 u22 u23 u24 u25 u26 u27 u28 u29 u30 u31 u32 u33 u34 u35 u36 u37 u38 u39 u40 u41 u42 u43 u44 u45 u46 u47 u48 u49 u50 u51 u52 u53 u54 u55 u56 u57 u58 u59 u60 u61 u62 u63 u64 u65 u66 u67 u68 u69 u70 u71 u72 u73 u74 u75 u76 u77 u78 u79 u80 u81 u82 u83 u84 u85 u86 u87 u88 u89 u90 u91 u92 u93 u94 u95 u96 : Value) (R : Exit → Act → World → Prop) (hP : Hid (∀ c a d v w, R (.panic c) (Act.put a d v) w → R (.panic c) a w))
    (hR : Hid (∀ (v6 v22 v23 v24 v25 v26 v27 v28 v29 : Value) (lv : Value) (dn : List Int) (w' : World), w'.ownsRow (r + 1) 3 1 lv dn.length (ints dn) → dn.Perm ks → Below r w w' → R .normal ⟨#[u0, u1, u2, u3, u4, lv, v6, u7, u8, u9, u10, u11, u12, u13, u14, u15, u16, u17, u18, u19, u20, .pointer (some ⟨r, 0, none⟩), v22, v23, v24, v25, v26, v27, v28, v29, u30, u31, u32, u33, u34, u35, u36, u37, u38, u39, u40, u41, u42, u43, u44, u45, u46, u47, u48, u49, u50, u51, u52, u53, u54, u55, u56, u57, u58, u59, u60, u61, u62, u63, u64, u65, u66, u67, u68, u69, u70, u71, u72, u73, u74, u75, u76, u77, u78, u79, u80, u81, u82, u83, u84, u85, u86, u87, u88, u89, u90, u91, u92, u93, u94, u95, u96], []⟩ w')) :
    Code.wp Tryz.prog cB0 R ⟨#[u0, u1, u2, u3, u4, .slice none 0 0, u6, u7, u8, u9, u10, u11, u12, u13, u14, u15, u16, u17, u18, u19, u20, .pointer (some ⟨r, 0, none⟩), u22, u23, u24, u25, u26, u27, u28, u29, u30, u31, u32, u33, u34, u35, u36, u37, u38, u39, u40, u41, u42, u43, u44, u45, u46, u47, u48, u49, u50, u51, u52, u53, u54, u55, u56, u57, u58, u59, u60, u61, u62, u63, u64, u65, u66, u67, u68, u69, u70, u71, u72, u73, u74, u75, u76, u77, u78, u79, u80, u81, u82, u83, u84, u85, u86, u87, u88, u89, u90, u91, u92, u93, u94, u95, u96], []⟩ w := by
  obtain ⟨i0, hif, hz0, hz1, hz2⟩ := info_parts info_int
  have Hit := Lib.hid hit
  have o0 := World.ownsRow_nil w (r + 1) 3 1
  have b0 := Below.refl r w
  have p0 : Hid (([] ++ ks : List Int).Perm ks) := Lib.hid (List.Perm.refl _)
  clear hit
  conv => arg 2; whnf
  go_wp2_with fail
  go_loopw [5] (fun u wr => ∃ (uv : Value) (dn todo : List Int), u = uv ∧ wr.ownsRow (r + 1) 3 1 uv dn.length (ints dn) ∧ Hid ((dn ++ todo).Perm ks) ∧ Hid (Iter wr mb r todo) ∧ Below r w wr) (fun _ wr => wr.rangeLeft mb r)
  case atStart => exact ⟨_, [], ks, rfl, o0, p0, Hit, b0⟩
  case round =>
    clear p0 Hit o0 b0
    obtain ⟨uv, dn, todo, rfl, ho, hp, hit, hb⟩ := hrel
    have Ho := Lib.hid ho
    have hsz := hb.size
    rcases hit.out.next 0 with ⟨h0, hrun⟩ | ⟨i, s, w1, hi, hrun, hen, hit1, hlt, hgr, hsz1⟩
    · subst h0
      rw [List.append_nil] at hp
      clear ho hit
      go_wp2_with fail
      with_reducible refine hR.out _ _ _ _ _ _ _ _ _ _ dn _ Ho.out hp.out hb
    · have hdl : dn.length ≤ 64 := by
        have := hp.out.length_eq
        rw [List.length_append] at this
        omega
      have o1 : w1.ownsRow (r + 1) 3 1 u5 dn.length (ints dn) := Ho.out.kept hgr (.inr (fun e => by have := own_base Ho.out r e; omega))
      have b1 : Below r w w1 := hb.grown hgr (by omega) (fun k hk => by rw [← Option.some.inj hk]; exact Nat.le_refl _)
      have O1 := Lib.hid o1
      have B1 := Lib.hid b1
      have I1 := Lib.hid hit1
      have L1 := Lib.hid hlt
      have Hi := Lib.hid hi
      have z1 : r + 1 ≤ w1.heap.size := by omega
      clear ho hit hit1 hlt hgr hi o1 b1 hsz1
      go_wp2_with (at_builtin; go_loud (refine wpList_append_lies _ rfl (.tmp 26) (.tmp 28) _ rfl (r + 1) 3 i0 (.int .i64 0) 1 8 Tryz.underlying45 hif hz0 hz1 hz2 rfl (by decide) u5 dn.length (ints dn) rfl (O1.out.alloc _) ⟨w1.heap.size, 0, none⟩ 1 1 [.int .i64 i] rfl rfl (cells_one _ _ _) (by simp [Value.oneCell']) (by omega) (by unfold maxLen; omega) (by omega) (by simp; omega) _ rfl ?_; intro g1 c1 w2 ho1 hg1 hat1 hl1))
      have hgb := World.grownBy_alloc w1 (.cells #[.int .i64 i] 3) none
      have i2 := (I1.out.kept hgb (by simp) (by simp)).kept hg1 (fun e => by have := own_base O1.out mb e.symm; omega) (fun e => by have := own_base O1.out r e.symm; omega)
      have l2 := ((I1.out.kept hgb (by simp) (by simp)).left hg1 (fun e => by have := own_base O1.out mb e.symm; omega) (fun e => by have := own_base O1.out r e.symm; omega)).trans (I1.out.left hgb (by simp) (by simp))
      have b2 : Below r w w2 := below_grown (B1.out.alloc (by omega) (.cells #[.int .i64 i] 3)) (by simp; omega) (row_mono O1.out (Nat.le_succ r)) hg1
      go_roundw
      case rel => exact ⟨_, dn ++ [i], todo.erase i, rfl, by simpa [ints] using ho1, Lib.hid (by
        refine List.Perm.trans ?_ hp.out
        rw [List.append_assoc]
        exact List.Perm.append_left dn (by simpa using (List.perm_cons_erase Hi.out).symm)), Lib.hid i2, b2⟩
      case measure => rw [l2]; exact L1.out
theorem below_none {w w1 : World} (hg : w.grownBy w1 none) : Below w.heap.size w w1 := ⟨hg.os, hg.tape, hg.output, hg.size, fun i hi => hg.block i hi (by simp)⟩
theorem sorted_lt {dn ks : List Int} (hp : dn.Perm ks) (hn : ks.Nodup) : (dn.mergeSort fun x y => decide (x ≤ y)).Pairwise (· < ·) := by
  have h1 : (dn.mergeSort fun x y => decide (x ≤ y)).Pairwise (fun x y => decide (x ≤ y) = true) := List.pairwise_mergeSort (fun a b c h1 h2 => by simp at *; omega) (fun a b => by simp; omega) dn
  have h2 : (dn.mergeSort fun x y => decide (x ≤ y)).Nodup := ((List.mergeSort_perm dn _).trans hp).nodup_iff.2 hn
  refine (h1.and h2).imp ?_
  rintro a b ⟨h3, h4⟩
  have h3 : a ≤ b := by simpa using h3
  have h4 : a ≠ b := h4
  omega
set_option maxRecDepth 1000000 in
set_option maxHeartbeats 8000000 in
theorem from9 (w w0 : World) (gb mb sb qb n c : Nat) (dead : Int) (B : Nat → List UInt8) (M : Int → Option (List UInt8)) (tk : Int) (lv : Value) (l : List Int) (hl : w.ownsRow w0.heap.size 3 1 lv l.length (ints l)) (hlt : l.Pairwise (· < ·)) (hlM : ∀ i, i ∈ l ↔ M i ≠ none) (hll : l.length ≤ 64) (hs : Sto w sb qb n c dead B) (hg : Grp w gb mb sb M tk) (hb : Below w0.heap.size w0 w)
    (u2 u3 u4 u6 u7 u8 u9 u10 u11 u12 u13 u14 u15 u16 u17 u18 u19 u20 u21 u22 u23 u24 u25 u26 u27 u28 u29 u30 u31 u32 u33 u34 u35 u36 u37 u38 u39 u40 u41 u42 u43 u44 u45 u46 u47 u48 u49 u50 u51 u52 u53 u54 u55 u56 u57 u58 u59 u60 u61 u62 u63 u64 u65 u66 u67 u68 u69 u70 u71 u72 u73 u74 u75 u76 u77 u78 u79 u80 u81 u82 u83 u84 u85 u86 u87 u88 u89 u90 u91 u92 u93 u94 u95 u96 : Value) :
    Code.wp Tryz.prog cFrom9 (bodyPost Tryz.prog Tryz.f46 (PatPost w0 n dead B M)) ⟨#[.pointer (some ⟨gb, 0, none⟩), .nilFunc, u2, u3, u4, lv, u6, u7, u8, u9, u10, u11, u12, u13, u14, u15, u16, u17, u18, u19, u20, u21, u22, u23, u24, u25, u26, u27, u28, u29, u30, u31, u32, u33, u34, u35, u36, u37, u38, u39, u40, u41, u42, u43, u44, u45, u46, u47, u48, u49, u50, u51, u52, u53, u54, u55, u56, u57, u58, u59, u60, u61, u62, u63, u64, u65, u66, u67, u68, u69, u70, u71, u72, u73, u74, u75, u76, u77, u78, u79, u80, u81, u82, u83, u84, u85, u86, u87, u88, u89, u90, u91, u92, u93, u94, u95, u96], []⟩ w := by
  have hmk : ∀ W : World, (Instr.makeMap 117 none).run Tryz.prog W = .ok (.map (some W.heap.size)) (W.alloc (.map #[] 0)) := fun W => run_makeMap _ W
  have hor := fun i => hs.rd_len i
  have hlr : ∀ i, i ∈ l → 0 ≤ i ∧ i < 64 := fun i hi => by
    rcases e : M i with _ | b
    · exact absurd e ((hlM i).1 hi)
    · have := hg.map.rng i b e
      exact ⟨this.1, this.2.1⟩
  have hb1 := below_al (Below.refl _ w) (.map #[] 0)
  have hne : gb ≠ w.heap.size ∧ mb ≠ w.heap.size ∧ sb ≠ w.heap.size ∧ qb ≠ w.heap.size ∧ ∀ g, lv.ownBlock = some g → g ≠ w.heap.size :=
    ⟨Nat.ne_of_lt hg.lt1, Nat.ne_of_lt hg.lt2, Nat.ne_of_lt hs.lt1, Nat.ne_of_lt hs.lt2, fun g h => Nat.ne_of_lt (own_lt hl g h)⟩
  have H := Lib.hid (And.intro hl (And.intro hs (And.intro hg (And.intro hb (And.intro hne (And.intro hlr (And.intro hlt hlM)))))))
  have HB := Lib.hid hb1
  obtain ⟨la, lc, rfl⟩ := own_slice hl
  clear hl hs hg hb hne hlr hlt hlM hb1
  conv => arg 2; whnf
  go_upto_block 2 with fail
  refine loop2_any (w.alloc (.map #[] 0)) w0 gb mb sb qb n c w.heap.size dead B M tk (.slice la l.length lc) l (own_below H.out.1 HB.out) H.out.2.2.2.2.2.1 hll (H.out.2.1.below HB.out) (MapIs.made w) (H.out.2.2.2.1.size) (H.out.2.2.1.below HB.out) H.out.2.2.2.2.1 _ _ _ _ _ _ _ _ _ _ _ _ _ _ _ _ _ _ _ _ _ _ _ _ _ _ _ _ _ _ _ _ _ _ _ _ _ _ _ _ _ _ _ _ _ _ _ _ _ _ _ _ _ _ _ _ _ _ _ _ _ _ _ _ _ _ _ _ _ _ _ _ _ _ _ _ _ _ _ _ _ _ _ _ _ _ _ _ _ _ _ _ _ (Lib.hid (fun c a d v w h => by cases d <;> exact h)) (Lib.hid ?_)
  intro v9 v36 v37 v38 v39 v40 v41 v42 v43 v44 v45 v46 v47 v48 v49 v50 w35 w2 hm2 hk2
  have hk := hk2
  dsimp only [Exit.then]
  apply_assumption
  have hne := H.out.2.2.2.2.1
  exact from15 w2 w0 gb mb sb n w.heap.size dead B M tk (.slice la l.length lc) l (hk.row (own_below H.out.1 HB.out) hne.2.2.2.2) H.out.2.2.2.2.2.2.1 H.out.2.2.2.2.2.2.2 hll hor hm2 ((H.out.2.2.1.below HB.out).keep hk hne.1 hne.2.1) (below_keep (below_base H.out.2.2.2.1 H.out.2.2.2.1.size HB.out) (by have := H.out.2.2.2.1.size; simp; omega) hk (fun i hi => by rw [hi]; exact H.out.2.2.2.1.size)) _ _ _ _ _ _ _ _ _ _ _ _ _ _ _ _ _ _ _ _ _ _ _ _ _ _ _ _ _ _ _ _ _ _ _ _ _ _ _ _ _ _ _ _ _ _ _ _ _ _ _ _ _ _ _ _ _ _ _ _ _ _ _ _ _ _ _ _ _ _ _ _ _ _ _ _ _ _ _ _ _ _ _ _ _ _ _ _ _ _ _ _ _
set_option maxRecDepth 1000000 in
set_option maxHeartbeats 8000000 in
theorem gpatches_nil (w : World) (gb mb sb qb n c : Nat) (dead : Int) (B : Nat → List UInt8) (M : Int → Option (List UInt8)) (tk : Int) (hs : Sto w sb qb n c dead B) (hg : Grp w gb mb sb M tk) :
    Calls Tryz.prog 46 #[.pointer (some ⟨gb, 0, none⟩), .nilFunc] w (PatPost w n dead B M) := by
  obtain ⟨w1, ks, hrun, hit, hgr, hsz, hnd, hks⟩ := Iter.start hg.map
  have hlen : ks.length ≤ 64 := nodup_le 64 ks hnd (fun i hi => by
    rcases e : M i with _ | b
    · exact absurd e ((hks i).1 hi)
    · have := hg.map.rng i b e
      exact ⟨this.1, this.2.1⟩)
  have hmr := hg.lt2
  have cg := blk_cell hg.grp
  have zg := hg.lt1
  have Hit := Lib.hid hit
  have Hsz := Lib.hid hsz
  have Hg := Lib.hid hg
  have Hs := Lib.hid hs
  have Hk := Lib.hid (And.intro hnd hks)
  have HB := Lib.hid (below_none hgr)
  clear hit hsz hg hs hnd hks hgr
  go_enter Tryz.func46, Tryz.ntmps46
  go_upto_block 0 with fail
  refine loop1_any w1 mb w.heap.size ks Hit.out hmr Hsz.out.symm hlen _ _ _ _ _ _ _ _ _ _ _ _ _ _ _ _ _ _ _ _ _ _ _ _ _ _ _ _ _ _ _ _ _ _ _ _ _ _ _ _ _ _ _ _ _ _ _ _ _ _ _ _ _ _ _ _ _ _ _ _ _ _ _ _ _ _ _ _ _ _ _ _ _ _ _ _ _ _ _ _ _ _ _ _ _ _ _ _ _ _ _ _ _ _ _ _ (Lib.hid (fun c a d v w h => by cases d <;> exact h)) (Lib.hid ?_)
  intro v6 v22 v23 v24 v25 v26 v27 v28 v29 lv dn w2 hown hperm hbel
  have hb2 : Below w.heap.size w w2 := HB.out.trans hbel
  have Hown := Lib.hid (row_mono hown (Nat.le_succ _))
  have Hb2 := Lib.hid hb2
  have Hp := Lib.hid hperm
  clear hown hbel hb2 hperm cg zg hrun
  dsimp only [Exit.then]
  apply_assumption
  refine wp_seq_k fun K hK0 => ?_
  have hK := Lib.hid hK0
  clear hK0
  go_wp2_with fail
  with_reducible refine (sort_own w2 w.heap.size dn.length lv dn Hown.out (by have := Hp.out.length_eq; omega)).mono ?_
  rintro e w3 ⟨rfl, ho3, hg3⟩
  have hb3 := Hb2.out.grown hg3 Hb2.out.size (fun k hk => own_base Hown.out k hk)
  have hl3 : (dn.mergeSort fun x y => decide (x ≤ y)).length = dn.length := (List.mergeSort_perm dn _).length_eq
  rw [← hl3] at ho3
  have hne : ∀ x, x < w.heap.size → lv.ownBlock ≠ some x := fun x hx h => by have := own_base Hown.out x h; omega
  have G3 := Lib.hid (Hg.out.below hb3)
  have S3 := Lib.hid (Hs.out.below hb3)
  have H3 := Lib.hid (And.intro ho3 hb3)
  clear ho3 hg3 hb3 hne
  go_wp2_with fail
  refine hK.out _ _ ?_
  exact from9 w3 w gb mb sb qb n c dead B M tk lv (dn.mergeSort fun x y => decide (x ≤ y)) H3.out.1 (sorted_lt Hp.out Hk.out.1) (fun i => by rw [List.mem_mergeSort, Hp.out.mem_iff]; exact Hk.out.2 i) (by rw [hl3]; have := Hp.out.length_eq; omega) S3.out G3.out H3.out.2 _ _ _ _ _ _ _ _ _ _ _ _ _ _ _ _ _ _ _ _ _ _ _ _ _ _ _ _ _ _ _ _ _ _ _ _ _ _ _ _ _ _ _ _ _ _ _ _ _ _ _ _ _ _ _ _ _ _ _ _ _ _ _ _ _ _ _ _ _ _ _ _ _ _ _ _ _ _ _ _ _ _ _ _ _ _ _ _ _ _ _ _ _ _
end Go.Proofs.YtijhamllnnilbaaGreatDoor.Gr
