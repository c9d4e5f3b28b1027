/- HashStays: how many pages a growing table takes. No program in sight. -/
import Derived.Test.YtijhamllnnilbaaGreatDoorHordPM
namespace Go.Proofs.YtijhamllnnilbaaGreatDoor.Ha
open Go.RowKit Go.Proofs.YtijhamllnnilbaaGreatDoor.Mem Go.Proofs.YtijhamllnnilbaaGreatDoor.Pg Go.Proofs.YtijhamllnnilbaaGreatDoor.Gr Go.Proofs.YtijhamllnnilbaaGreatDoor.Sp
set_option linter.unusedVariables false
set_option linter.unusedSimpArgs false
def ovL (l : List Lf) : Nat := (l.map (fun b => b.ov.length)).sum
theorem ovL_append (a b : List Lf) : ovL (a ++ b) = ovL a + ovL b := by simp [ovL]
theorem nums_ovL : ∀ l : List Lf, (numsF l).length = l.length + ovL l
 | [] => rfl
 | b :: l => by
  have h := nums_ovL l
  have e : numsF (b :: l) = b.nums ++ numsF l := by simp [numsF]
  have e2 : b.nums.length = b.ov.length + 1 := by simp [Lf.nums, Lf.pgs]
  rw [e, List.length_append, h, e2, List.length_cons]
  simp only [ovL, List.map_cons, List.sum_cons]
  omega
theorem ovL_one (b : Lf) : ovL [b] = b.ov.length := by simp [ovL]
theorem ovL_upd (t : Tri) (h : Nat) (s : Tri) : ovL (t.upd h (t.dep h) s).leaves + (t.at' h).ov.length = ovL t.leaves + ovL s.leaves := by
 obtain ⟨L, R, e1, e2⟩ := Tri.leaves_upd (t.dep h) t h (Nat.le_refl _)
 rw [Tri.sub_dep] at e1
 have e3 : (Tri.leaf (t.at' h)).leaves = [t.at' h] := rfl
 rw [e2 s, e1, e3, ovL_append, ovL_append, ovL_append, ovL_append, ovL_one]
 omega
theorem ovL_cutT (k : List UInt8) (t : Tri) : ovL (cutT k t).leaves = ovL t.leaves := by
 have h := ovL_upd t (sumF k) (.leaf (lfOf (cutP k (t.at' (sumF k)).pgs)))
 have e : ovL (Tri.leaf (lfOf (cutP k (t.at' (sumF k)).pgs))).leaves = (t.at' (sumF k)).ov.length := by
  simp [Tri.leaves, ovL, lfOf, cutP, Lf.pgs]
 rw [e] at h
 unfold cutT updB
 omega
theorem ovL_split {h : Nat} {t t' : Tri} (hs : SplitTri h t t') (hov : (t.at' h).ov = []) : ovL t'.leaves = ovL t.leaves := by
 obtain ⟨m, _, rfl⟩ := hs
 have h1 := ovL_upd t h (.node (.leaf ⟨(t.at' h).n, (t.at' h).cs.filter (bitF (t.dep h)), []⟩) (.leaf ⟨m, (t.at' h).cs.filter (fun c => !bitF (t.dep h) c), []⟩))
 rw [hov] at h1
 simp only [Tri.leaves, ovL, List.map_cons, List.map_nil, List.sum_cons, List.sum_nil, List.length_nil, List.cons_append, List.nil_append] at h1 ⊢
 omega
theorem ovL_grown {x : Cel} {grow : Bool} {t t' : Tri} (h : Grown x grow t t') : ovL t'.leaves = ovL t.leaves := by
 induction h with
 | refl => rfl
 | step _ _ hov _ hs _ ih => rw [ih, ovL_split hs hov]
def Thin (t : Tri) : Prop := ∀ i, 210 * (t.at' i).ov.length ≤ szs (t.at' i).cells
def ThinC (s h : Nat) (t : Tri) : Prop := ∀ i, 210 * (t.at' i).ov.length ≤ szs (t.at' i).cells + (if i % 2 ^ t.dep h = h % 2 ^ t.dep h then s else 0)
theorem szs_cut_one {k : List UInt8} {s : Nat} : ∀ (l : List Cel), (l.map Cel.key).Nodup → (∀ c, c ∈ l → c.key = k → c.sz ≤ s) → szs l ≤ szs (cutK k l) + s
 | [], _, _ => Nat.zero_le _
 | a :: l, hn, h => by
  rw [List.map_cons, List.nodup_cons] at hn
  by_cases e : a.key = k
  · have h1 : cutK k (a :: l) = cutK k l := List.filter_cons_of_neg (by simpa using e)
    have h2 : cutK k l = l := cut_none (fun ⟨c, hc, hk⟩ => hn.1 (List.mem_map.2 ⟨c, hc, by rw [hk, e]⟩))
    have h3 := h a (List.mem_cons_self ..) e
    rw [h1, h2]
    simp only [szs, List.map_cons, List.sum_cons]
    omega
  · have h1 : cutK k (a :: l) = a :: cutK k l := List.filter_cons_of_pos (by simpa using e)
    have h2 := szs_cut_one l hn.2 (fun c hc => h c (List.mem_cons_of_mem _ hc))
    rw [h1]
    simp only [szs, List.map_cons, List.sum_cons] at h2 ⊢
    omega
theorem lfOf_ov {ps : List (Nat × List Cel)} (h : ps ≠ []) : (lfOf ps).ov.length + 1 = ps.length := by
 cases ps with
 | nil => exact absurd rfl h
 | cons p r => rfl
theorem Lf.ov_len (b : Lf) : b.ov.length + 1 = b.pgs.length := rfl
theorem updB_at' (t : Tri) (h i : Nat) (ps : List (Nat × List Cel)) : (updB t h ps).at' i = if i % 2 ^ t.dep h = h % 2 ^ t.dep h then lfOf ps else t.at' i := by
 unfold updB
 rw [Tri.at_upd _ _ t h i (Nat.le_refl _)]; rfl
theorem Thin.cut {t : Tri} {k : List UInt8} {s : Nat} (h : Thin t) (hn : ((t.at' (sumF k)).cells.map Cel.key).Nodup) (hs : ∀ c, c ∈ (t.at' (sumF k)).cells → c.key = k → c.sz ≤ s) : ThinC s (sumF k) (cutT k t) := fun i => by
 rw [(cutT_at k t).2]
 unfold cutT
 rw [updB_at']
 by_cases e : i % 2 ^ t.dep (sumF k) = sumF k % 2 ^ t.dep (sumF k)
 · rw [if_pos e, if_pos e]
   have hne : cutP k (t.at' (sumF k)).pgs ≠ [] := by simp [cutP, Lf.pgs]
   have h2 := lfOf_ov hne
   rw [cutP_len, ← Lf.ov_len] at h2
   have h3 := h (sumF k)
   have h4 := szs_cut_one _ hn hs
   rw [Lf.cells_eq (lfOf _), lfOf_pgs hne, cutP_cells]
   rw [Lf.cells_eq] at h3 h4
   omega
 · rw [if_neg e, if_neg e]
   exact h i
theorem split_at {h i : Nat} {t t' : Tri} (hs : SplitTri h t t') : (i % 2 ^ t.dep h = h % 2 ^ t.dep h ∧ (t'.at' i).ov = []) ∨ (¬ i % 2 ^ t.dep h = h % 2 ^ t.dep h ∧ t'.at' i = t.at' i) := by
 obtain ⟨m, _, rfl⟩ := hs
 rw [Tri.at_upd _ _ t h i (Nat.le_refl _)]
 by_cases e : i % 2 ^ t.dep h = h % 2 ^ t.dep h
 · rw [if_pos e, Tri.at_node]
   refine .inl ⟨e, ?_⟩
   by_cases hb : i / 2 ^ t.dep h % 2 = 0
   · rw [if_pos hb]; rfl
   · rw [if_neg hb]; rfl
 · rw [if_neg e]
   exact .inr ⟨e, rfl⟩
theorem ThinC.grown {x : Cel} {grow : Bool} {t t' : Tri} {s : Nat} (h : Grown x grow t t') : ThinC s (sumF x.key) t → ThinC s (sumF x.key) t' := by
 induction h with
 | refl => exact id
 | step _ _ hov _ hs _ ih =>
  intro hT
  refine ih fun i => ?_
  rcases split_at (i := i) hs with ⟨_, h1⟩ | ⟨h1, h2⟩
  · rw [h1]; exact Nat.zero_le _
  · have h3 := hT i
    rw [if_neg h1] at h3
    rw [h2]
    omega
theorem split_sub {h : Nat} {t t' : Tri} (hs : SplitTri h t t') (hov : (t.at' h).ov = []) {c : Cel} (hc : c ∈ (t'.at' h).cells) : c ∈ (t.at' h).cells := by
 obtain ⟨m, _, rfl⟩ := hs
 rw [Tri.at_upd _ _ t h h (Nat.le_refl _), if_pos rfl, Tri.at_node] at hc
 have e : (t.at' h).cells = (t.at' h).cs := by unfold Lf.cells Lf.pgs; rw [hov]; simp
 rw [e]
 by_cases hb : h / 2 ^ t.dep h % 2 = 0
 · rw [if_pos hb] at hc
   have : c ∈ (t.at' h).cs.filter (bitF (t.dep h)) := by simpa [Lf.cells, Lf.pgs, Tri.at'] using hc
   exact (List.mem_filter.1 this).1
 · rw [if_neg hb] at hc
   have : c ∈ (t.at' h).cs.filter (fun c => !bitF (t.dep h) c) := by simpa [Lf.cells, Lf.pgs, Tri.at'] using hc
   exact (List.mem_filter.1 this).1
theorem grown_sub {x : Cel} {grow : Bool} {t t' : Tri} (h : Grown x grow t t') {c : Cel} : c ∈ (t'.at' (sumF x.key)).cells → c ∈ (t.at' (sumF x.key)).cells := by
 induction h with
 | refl => exact id
 | step _ _ hov _ hs _ ih => exact fun hc => split_sub hs hov (ih hc)
theorem Thin.set {n D : Nat} {pg : Nat → Pag} {t t' : Tri} {x : Cel} {grow : Bool} (h : Thin t) (T : Tb n pg D t) (hs : SetOk x grow t t') (hx : x.sz ≤ 30) (hsame : ∀ c, c ∈ (t.at' (sumF x.key)).cells → c.key = x.key → c.sz ≤ x.sz) : Thin t' := by
 have hm := t.at_mem (sumF x.key)
 have hkeys := T.keys _ hm
 rcases hs with ⟨j, m, cs, hj, hh, _, rfl⟩ | ⟨t1, hg, ht'⟩
 · intro i
   rw [updB_at']
   by_cases e : i % 2 ^ t.dep (sumF x.key) = sumF x.key % 2 ^ t.dep (sumF x.key)
   · rw [if_pos e]
     have hne : (t.at' (sumF x.key)).pgs.set j (m, ins x cs) ≠ [] := by simp [Lf.pgs]
     have h2 := lfOf_ov hne
     rw [List.length_set, ← Lf.ov_len] at h2
     have h3 := h (sumF x.key)
     obtain ⟨A, B, c1, c2⟩ := cells_set hj (ins x cs)
     have hsort : Sorted cs := (T.fits _ hm _ (List.mem_of_getElem? hj)).sorted
     have h4 : szs (ins x cs) = szs (cutK x.key cs) + x.sz := by rw [← ins_cut hsort, szs_ins_new (has_cut _ _)]
     have hk2 : (cs.map Cel.key).Nodup := by
      rw [Lf.cells_eq, c1, List.map_append, List.map_append, List.nodup_append, List.nodup_append] at hkeys
      exact hkeys.2.1.1
     have h5 := szs_cut_one cs hk2 (fun c hc => hsame c (has_cells hj hc))
     rw [Lf.cells_eq, c1, szs_append, szs_append] at h3
     rw [Lf.cells_eq (lfOf _), lfOf_pgs hne, c2, szs_append, szs_append]
     omega
   · rw [if_neg e]; exact h i
 · have hC := ThinC.grown hg (h.cut hkeys hsame)
   have hno : ¬ has x.key (t1.at' (sumF x.key)).cells := fun ⟨c, hc, hk⟩ => cutT_has x.key t ⟨c, grown_sub hg hc, hk⟩
   rcases ht' with ⟨j, m, cs, hj, _, _, rfl⟩ | ⟨hnf, _, q, _, rfl⟩
   · intro i
     rw [updB_at']
     by_cases e : i % 2 ^ t1.dep (sumF x.key) = sumF x.key % 2 ^ t1.dep (sumF x.key)
     · rw [if_pos e]
       have hne : (t1.at' (sumF x.key)).pgs.set j (m, ins x cs) ≠ [] := by simp [Lf.pgs]
       have h2 := lfOf_ov hne
       rw [List.length_set, ← Lf.ov_len] at h2
       obtain ⟨A, B, c1, c2⟩ := cells_set hj (ins x cs)
       have h4 : szs (ins x cs) = szs cs + x.sz := szs_ins_new (fun ⟨c, hc, hk⟩ => hno ⟨c, has_cells hj hc, hk⟩)
       have h3 := hC (sumF x.key)
       rw [if_pos rfl, Lf.cells_eq, c1, szs_append, szs_append] at h3
       rw [Lf.cells_eq (lfOf _), lfOf_pgs hne, c2, szs_append, szs_append]
       omega
     · have h3 := hC i
       rw [if_neg e] at h3 ⊢
       exact h3
   · intro i
     rw [updB_at']
     by_cases e : i % 2 ^ t1.dep (sumF x.key) = sumF x.key % 2 ^ t1.dep (sumF x.key)
     · rw [if_pos e]
       have hne : (t1.at' (sumF x.key)).pgs ++ [(q, [x])] ≠ [] := by simp
       have h2 := lfOf_ov hne
       rw [List.length_append] at h2
       have h3 := nofit_pages (z := 30) hx hno hnf
       rw [Lf.cells_eq (lfOf _), lfOf_pgs hne, cellsP_append, szs_append]
       simp only [List.length_singleton] at h2
       omega
     · have h3 := hC i
       rw [if_neg e] at h3 ⊢
       exact h3
theorem thin_flat : ∀ l : List Lf, (∀ b, b ∈ l → 210 * b.ov.length ≤ szs b.cells) → 210 * ovL l ≤ szs (l.flatMap Lf.cells)
 | [], _ => Nat.zero_le _
 | b :: l, h => by
  have h1 := h b (List.mem_cons_self ..)
  have h2 := thin_flat l (fun c hc => h c (List.mem_cons_of_mem _ hc))
  rw [List.flatMap_cons, szs_append]
  simp only [ovL, List.map_cons, List.sum_cons] at h2 ⊢
  omega
theorem Thin.all {t : Tri} (h : Thin t) : 210 * ovL t.leaves ≤ szs (cellsT t) := thin_flat t.leaves fun b hb => by
 obtain ⟨i, _, rfl⟩ := Tri.mem_at t b hb
 exact h i
theorem thin00 : Thin t00 := fun i => Nat.zero_le _
theorem Kv.cells {n D : Nat} {pg : Nat → Pag} {t : Tri} {f : List UInt8 → List UInt8} {J : List (List UInt8)} (h : Kv t f J) (T : Tb n pg D t) (hf : ∀ k, (f k).length ≤ 10) : (∀ c, c ∈ cellsT t → c.key ∈ J ∧ c = ⟨c.key, f c.key, 0, 0⟩) ∧ szs (cellsT t) ≤ 30 * J.length := by
 have hc : ∀ c, c ∈ cellsT t → c.key ∈ J ∧ c = ⟨c.key, f c.key, 0, 0⟩ := fun c hc => by
  have h1 := (cells_look T c).1 hc
  rw [h.look] at h1
  by_cases e : c.key ∈ J
  · rw [if_pos e] at h1
    injection h1 with h1
    exact ⟨e, h1.symm⟩
  · rw [if_neg e] at h1; cases h1
 refine ⟨hc, ?_⟩
 have h1 : (cellsT t).length ≤ J.length := by
  have := nodup_sub ((cellsT t).map Cel.key) J (cells_nodup T) (fun a ha => by
   obtain ⟨c, h1, rfl⟩ := List.mem_map.1 ha
   exact (hc c h1).1)
  rwa [List.length_map] at this
 have h2 := szs_le_all (z := 30) (cellsT t) (fun c h3 => by
  obtain ⟨b, hb, hcb⟩ := List.mem_flatMap.1 h3
  have h4 := (cel_ok T hb hcb).key.2
  have h5 := hf c.key
  rw [(hc c h3).2]
  show 4 + c.key.length + (f c.key).length ≤ 30
  omega)
 exact Nat.le_trans h2 (Nat.mul_le_mul_left _ h1)
theorem stay_few {n D n' D' : Nat} {pg pg' : Nat → Pag} {t t' : Tri} {f : List UInt8 → List UInt8} {J : List (List UInt8)} (h : Kv t f J) (T : Tb n pg D t) (T' : Tb n' pg' D' t') (hf : ∀ k, (f k).length ≤ 10) (hJ : J.length ≤ 60) (hT : Thin t) (ho : ovL t'.leaves = ovL t.leaves) : (numsF t'.leaves).length ≤ 40 := by
 have h1 := hT.all
 have h2 := (h.cells T hf).2
 have h3 := t'.leaves_pow
 have h4 : 2 ^ t'.height ≤ 2 ^ 5 := Nat.pow_le_pow_right (by omega) (Nat.le_trans T'.hi T'.d5)
 rw [nums_ovL, ho]
 have : (2 : Nat) ^ 5 = 32 := rfl
 omega
theorem Kv.cut {n D : Nat} {pg : Nat → Pag} {t : Tri} {ml : List UInt8} {X : List Nat} {f : List UInt8 → List UInt8} {J : List (List UInt8)} (h : Kv t f J) (H : Hs n pg D t ml X) (k : List UInt8) : Kv (cutT k t) f (J.filter (fun q => !(q == k))) := ⟨fun q => by
 rw [look_cutT H, h.look]
 by_cases e : q = k
 · subst e; simp
 · simp [e]⟩
theorem Kv.cutNo {t : Tri} {f : List UInt8 → List UInt8} {J : List (List UInt8)} (h : Kv t f J) {k : List UInt8} (hk : k ∉ J) : J.filter (fun q => !(q == k)) = J := by
 rw [List.filter_eq_self]
 intro a ha
 have : a ≠ k := fun e => hk (e ▸ ha)
 simpa using this
theorem Kv.hasK {t : Tri} {f : List UInt8 → List UInt8} {J : List (List UInt8)} (h : Kv t f J) (k : List UInt8) : has k (t.at' (sumF k)).cells ↔ k ∈ J := by
 rw [has_iff_look]
 have h1 := h.look k
 unfold lookT at h1
 rw [h1]
 by_cases e : k ∈ J
 · rw [if_pos e]; simp [e]
 · rw [if_neg e]; simp [e]
theorem Kv.none {n D : Nat} {pg : Nat → Pag} {t : Tri} {f : List UInt8 → List UInt8} (h : Kv t f []) (T : Tb n pg D t) : cellsT t = [] := by
 refine List.eq_nil_iff_forall_not_mem.2 fun c hc => ?_
 have h1 := (cells_look T c).1 hc
 rw [h.look] at h1
 simp at h1
end Go.Proofs.YtijhamllnnilbaaGreatDoor.Ha
