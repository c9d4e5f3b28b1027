/- Lemmas of the claim, in their order:
- The contract of hash's buckets.
-/
import Derived.Test.YtijhamllnnilbaaGreatDoorU29
import Derived.Test.YtijhamllnnilbaaGreatDoorU21
set_option linter.unusedVariables false
set_option linter.unusedSimpArgs false
namespace Go.Proofs.YtijhamllnnilbaaGreatDoor.Ha
open Go.RowKit Go.Proofs.YtijhamllnnilbaaGreatDoor.Mem Go.Proofs.YtijhamllnnilbaaGreatDoor.Pg Go.Proofs.YtijhamllnnilbaaGreatDoor.Kp Go.Proofs.YtijhamllnnilbaaGreatDoor.Sp Go.Proofs.YtijhamllnnilbaaGreatDoor.Gr
set_option linter.unusedSimpArgs false
set_option linter.unusedVariables false
theorem contains_nat (w : World) (base : Nat) (v : Value) (l : List Nat) (m : Nat) (h : w.ownsRow base 3 1 v l.length (natV l)) (hl : l.length ≤ 1000) :
    Calls Tryz.prog 148 #[v, .int .i64 m] w fun e w' => e = .returned (.bool (decide (m ∈ l))) ∧ w' = w := by
  rcases Nat.eq_zero_or_pos l.length with h0 | h0
  · obtain ⟨A, c, rfl⟩ := own_slice h
    have hl0 : l = [] := List.length_eq_zero_iff.1 h0
    subst hl0
    exact Tryz.slices_Contains_int_empty A c m w
  · obtain ⟨g, cap, rfl, _, _⟩ := h.form h0
    have hc := Tryz.slices_Contains_int g 0 l.length cap (toI l) m w (by simp [toI]) (by omega) (fun j hj => by
      have hj' : j < l.length := by simpa [toI] using hj
      rw [Nat.zero_add, toI_getD l j hj']
      exact own_at h j _ (by simp [natV, hj']))
    have e : (((toI l).take l.length).contains (m : Int)) = decide (m ∈ l) := by
      rw [List.take_of_length_le (by simp [toI]), Bool.eq_iff_iff, List.contains_iff_mem, toI_mem, decide_eq_true_eq]
    rw [e] at hc
    exact hc
/-- A bucket whose blocks are none of those in S. -/
structure ChX (C : Nat) (w : World) (cb gb : Nat) (L : List (Nat × Pag)) (S : Nat → Prop) : Prop where
  ex : ∃ nv pv, w.heap[cb]? = some (.cells #[.pointer (some ⟨gb, 0, none⟩), nv, pv] 132 (0, 0)) ∧ w.ownsRow C 3 1 nv L.length (natV (L.map (·.1))) ∧ w.ownsRow C 113 4 pv L.length (flatP (L.map (·.2))) ∧ nv.ownBlock ≠ some cb ∧ pv.ownBlock ≠ some cb ∧ (L ≠ [] → nv.ownBlock ≠ pv.ownBlock) ∧
    (∀ i, nv.ownBlock = some i → ¬ S i) ∧ ∀ i, pv.ownBlock = some i → ¬ S i
  base : C ≤ cb
  off : ¬ S cb
theorem ChX.ch {C : Nat} {w : World} {cb gb : Nat} {L : List (Nat × Pag)} {S : Nat → Prop} (h : ChX C w cb gb L S) : Ch C w cb gb L := by
  obtain ⟨nv, pv, h1, h2, h3, h4, h5, h6, _⟩ := h.ex
  exact ⟨⟨nv, pv, h1, h2, h3, h4, h5, h6⟩, h.base⟩
theorem ChX.of {C : Nat} {w : World} {cb gb : Nat} {L : List (Nat × Pag)} {S : Nat → Prop} (h : Ch C w cb gb L) (hS : ∀ i, S i → i < C) : ChX C w cb gb L S := by
  obtain ⟨nv, pv, h1, h2, h3, h4⟩ := h.ex
  have hb := h.base
  exact ⟨⟨nv, pv, h1, h2, h3, h4.1, h4.2.1, h4.2.2, fun i hi hs => by have := own_base h2 i hi; have := hS i hs; omega, fun i hi hs => by have := own_base h3 i hi; have := hS i hs; omega⟩, hb, fun hs => by have := hS _ hs; omega⟩
theorem ChX.mono {C C' : Nat} {w : World} {cb gb : Nat} {L : List (Nat × Pag)} {S : Nat → Prop} (h : ChX C w cb gb L S) (hC : C' ≤ C) : ChX C' w cb gb L S := by
  obtain ⟨nv, pv, h1, h2, h3, h4⟩ := h.ex
  exact ⟨⟨nv, pv, h1, row_mono h2 hC, row_mono h3 hC, h4⟩, Nat.le_trans hC h.base, h.off⟩
theorem ChX.keep {C : Nat} {w w' : World} {cb gb : Nat} {L : List (Nat × Pag)} {S S' T : Nat → Prop} (h : ChX C w cb gb L S) (k : Keep T w w') (hT : ∀ i, T i → S i) (hS : ∀ i, S' i → S i ∨ w.heap.size ≤ i) : ChX C w' cb gb L S' := by
  obtain ⟨nv, pv, h1, h2, h3, h4, h5, h6, h7, h8⟩ := h.ex
  have hl := lt_of_block h1
  refine ⟨⟨nv, pv, k.blk h1 (fun e => h.off (hT _ e)), k.row h2 (fun g hg e => h7 g hg (hT _ e)), k.row h3 (fun g hg e => h8 g hg (hT _ e)), h4, h5, h6, fun i hi hs => ?_, fun i hi hs => ?_⟩, h.base, fun hs => ?_⟩
  · rcases hS i hs with e | e
    · exact h7 i hi e
    · have := own_lt h2 i hi; omega
  · rcases hS i hs with e | e
    · exact h8 i hi e
    · have := own_lt h3 i hi; omega
  · rcases hS _ hs with e | e
    · exact h.off e
    · omega
def ptrs (cbs : List Nat) : List Value := cbs.map fun (b : Nat) => .pointer (some ⟨b, 0, none⟩)
theorem ptrs_app (a b : List Nat) : ptrs (a ++ b) = ptrs a ++ ptrs b := by simp [ptrs]
/-- Ahead of a round of buckets: w is the world behind the directory's entries. -/
structure BkS (w0 w wr : World) (gb mb sb qb c n : Nat) (pg : Nat → Pag) (tk : Int) (t : Tri) (F : List Nat) (out had : Value) (cbs : List Nat) : Prop where
  g : GV w0 wr gb mb sb qb c n pg tk
  r : Below w.heap.size w wr
  rh : wr.ownsRow w.heap.size 3 1 had F.length (natV (F.map (fun i => (t.at' i).n)))
  ro : wr.ownsRow w.heap.size 124 1 out cbs.length (ptrs cbs)
  len : cbs.length = F.length
  chs : ∀ (k i cb : Nat), F[k]? = some i → cbs[k]? = some cb → ChX w.heap.size wr cb gb ((t.at' i).pags (t.dep i)) (fun q => had.ownBlock = some q ∨ out.ownBlock = some q)
theorem info_chain : (Tryz.prog.info? 124).map (fun i => (i.zero, i.size, i.bytes)) = some (some (.pointer none), 1, 8) := by kernel_rfl
theorem one_ptr (b : Nat) : ∀ u ∈ [Value.pointer (some ⟨b, 0, none⟩)], u.oneCell' = true := by simp [Value.oneCell']
set_option maxRecDepth 100000 in
set_option maxHeartbeats 4000000 in
theorem buckets_ok (w0 w : World) (gb mb sb qb c n D tb : Nat) (pg : Nat → Pag) (tk : Int) (t : Tri) (h : GV w0 w gb mb sb qb c n pg tk) (T : Tb n pg D t) (htb : w.heap[tb]? = some (tbO gb D (Dr.bdy (entsF D t)))) :
    Calls Tryz.prog 59 #[.pointer (some ⟨tb, 0, none⟩)] w fun e w' => ∃ A cap cbs, e = .returned (.tuple #[.slice A (fstT t (2 ^ D)).length cap, .int .i64 0]) ∧ cbs.length = (fstT t (2 ^ D)).length ∧
      w'.ownsRow w.heap.size 124 1 (.slice A (fstT t (2 ^ D)).length cap) cbs.length (ptrs cbs) ∧ (∀ (k i cb : Nat), (fstT t (2 ^ D))[k]? = some i → cbs[k]? = some cb → Ch w.heap.size w' cb gb ((t.at' i).pags (t.dep i))) ∧ GV w0 w' gb mb sb qb c n pg tk ∧ Below w.heap.size w w' := by
  obtain ⟨i0, hif, hz0, hz1, hz2⟩ := info_parts info_int'
  obtain ⟨i1, hig, hy0, hy1, hy2⟩ := info_parts info_chain
  have hgd := T.good h.n64
  have hle := hgd.le
  have hall := fun W => Dr.good_all hgd (2 ^ D) (entsF_len D t).symm W
  rw [entsF_len] at hle
  have h64 := h.n64
  have hgl := h.lt
  have htl := lt_of_block htb
  obtain ⟨S, hS⟩ : ∃ S, S = Dr.bdy (entsF D t) := ⟨_, rfl⟩
  rw [← hS] at hall htb
  have HT := Lib.hid htb
  have ct := blk_cell htb
  have G0 := Lib.hid h
  have TT := Lib.hid T
  have HE := Lib.hid (entsF_get D t)
  generalize hMM : 2 ^ D = M at *
  clear hS h htb T hgd hMM
  go_enter Tryz.func59, Tryz.ntmps59
  go_wp2_with fail
  with_reducible refine (hall _).mono ?_
  rintro e w1 ⟨ga, ca, rfl, hown, hga, hb1⟩
  have OA := Lib.hid hown
  have B1 := Lib.hid hb1
  have HT1 := Lib.hid (blk_keep HT.out hb1)
  have hw1 := hb1.size
  have S1 : Hid (BkS w0 w1 w1 gb mb sb qb c n pg tk t (fstT t 0) (.slice none 0 0) (.slice none 0 0) []) := Lib.hid ⟨G0.out.rk hb1, Below.refl _ _, ⟨rfl, .inl ⟨rfl, rfl⟩⟩, ⟨rfl, .inl ⟨rfl, rfl⟩⟩, rfl, fun k i cb h1 _ => by simp [fstT] at h1⟩
  clear hown hb1 ct hall
  go_wp2_with fail
  go_loopg [4, 5, 16] M (fun k v4 v5 v16 wr => ∃ (j : Nat) (cbs : List Nat), k + j = M ∧ v16 = .int .i64 (j : Nat) ∧ j ≤ M ∧ Hid (BkS w0 w1 wr gb mb sb qb c n pg tk t (fstT t j) v4 v5 cbs))
  case atStart => exact ⟨0, [], rfl, rfl, Nat.zero_le _, S1⟩
  case round =>
    clear S1
    obtain ⟨j, cbs, hkj, rfl, hj, H1⟩ := hrel
    have len1 := fstT_len t j
    by_cases hlt : j < M
    · have hjI : (j : Int) < (M : Int) := by omega
      have i1w : IntKind.i64.wrap ((j : Int) + 1) = (j : Int) + 1 := IntWalk.i64_in _ (by omega)
      have oa := own_below OA.out H1.out.r
      have hxj : (ints (entsF D t))[j]? = some (.int .i64 ((t.at' j).n : Int)) := by rw [ints, List.getElem?_map, HE.out j hlt]; rfl
      have ca0 := own_at oa j _ hxj
      have la := own_lt oa ga rfl
      obtain ⟨A5, c5, h5⟩ := own_slice H1.out.rh
      obtain ⟨A4, c4, h4⟩ := own_slice H1.out.ro
      subst h5 h4
      have hcon := contains_nat wr w1.heap.size (.slice A5 (fstT t j).length c5) ((fstT t j).map (fun i => (t.at' i).n)) (t.at' j).n (by rw [List.length_map]; exact H1.out.rh) (by rw [List.length_map]; omega)
      have HTr := Lib.hid (blk_keep HT1.out H1.out.r)
      by_cases hmem : (t.at' j).n ∈ (fstT t j).map (fun i => (t.at' i).n)
      · rw [decide_eq_true hmem] at hcon
        have hst : fstT t (j + 1) = fstT t j := by show (if _ then _ else _) = _; rw [if_pos hmem]
        have H2 : Hid (BkS w0 w1 wr gb mb sb qb c n pg tk t (fstT t (j + 1)) (.slice A4 cbs.length c4) (.slice A5 (fstT t j).length c5) cbs) := Lib.hid (by rw [hst]; exact H1.out)
        clear hst hmem oa hxj H1
        go_wp2_with fail
        with_reducible refine hcon.mono ?_
        rintro e w2 ⟨rfl, rfl⟩
        go_wp2_with fail
        go_roundg (gk - 1)
        case measure => omega
        case rel => exact ⟨j + 1, cbs, by omega, by simp, by omega, H2⟩
      · rw [decide_eq_false hmem] at hcon
        have hst : fstT t (j + 1) = fstT t j ++ [j] := by show (if _ then _ else _) = _; rw [if_neg hmem]
        have hread := fun W (hW : GV w0 W gb mb sb qb c n pg tk) => read_ok w0 W gb mb sb qb c n (t.dep j) pg tk (t.at' j) hW (TT.out.chn h64 j)
        obtain ⟨NJ, hNJ⟩ : ∃ b : Nat, b = (t.at' j).n := ⟨_, rfl⟩
        rw [← hNJ] at hread ca0 hcon
        have hws := H1.out.r.size
        have o5 := H1.out.rh.alloc (.cells #[.int .i64 (NJ : Nat)] 3)
        have HST := Lib.hid hst
        have HNJ := Lib.hid hNJ
        have cHT := blk_cell HTr.out
        have lHT := lt_of_block HTr.out
        clear hst hmem oa hxj hNJ
        go_wp2_with fail
        with_reducible refine hcon.mono ?_
        rintro e w2 ⟨rfl, rfl⟩
        clear hcon
        go_wp2_with (at_builtin; refine wpList_append_lies _ rfl (.tmp 23) (.tmp 25) _ rfl w1.heap.size 3 i0 (.int .i64 0) 1 8 Tryz.underlying45 hif hz0 hz1 hz2 rfl (by decide) (.slice A5 (fstT t j).length c5) _ _ rfl o5 ⟨w2.heap.size, 0, none⟩ 1 1 [.int .i64 (NJ : Nat)] rfl rfl (cells_one _ _ _) (by simp [Value.oneCell']) (by omega) (by unfold maxLen; omega) (by omega) (by simp; omega) _ rfl ?_; intro g1 c1 w3 ho1 hg1 hat1 hl1; have kg := Keep.grown (S := fun q => (Value.slice A5 (fstT t j).length c5).ownBlock = some q) hg1 (fun j h => h); have T3 := kg.blk (hal HTr.out) (fun e => by have := own_base o5 _ e; omega); have cT3 := blk_cell T3; have lT3 := lt_of_block T3)
        have K3 := (Keep.of_below (S := fun q => (Value.slice A5 (fstT t j).length c5).ownBlock = some q) (below_al (Below.refl _ w2) (.cells #[.int .i64 (NJ : Nat)] 3))).trans kg
        have g3 := H1.out.g.owns K3 (fun i hi => by have := own_base H1.out.rh i hi; omega)
        have hr3 := hread w3 g3
        have O3 := Lib.hid ho1
        have Kh := Lib.hid K3
        have ne45 := own_ne H1.out.rh H1.out.ro (by decide)
        have R3 := Lib.hid (K3.row H1.out.ro (fun g hg e => by rcases ne45 with h | h; exact absurd (e.symm.trans h) (by simp); exact h (e.trans hg.symm)))
        have HAT : Hid (∀ q, q = g1 → (Value.slice A5 (fstT t j).length c5).ownBlock = some q ∨ w2.heap.size ≤ q) := Lib.hid (fun q e => by subst e; rcases hat1 with h | h; exact .inl h; exact .inr (by have h2 := h; simp at h2; omega))
        have hl1 := Lib.hid hl1
        clear hread kg T3 K3 g3 ho1 hg1 hat1 o5 cHT lHT HTr ne45
        with_reducible refine hr3.mono ?_
        rintro e w4 ⟨cb, rfl, hch, g4, k4⟩
        have o4 := own_below R3.out k4.bel
        have o4b := o4.alloc (.cells #[.pointer (some ⟨cb, 0, none⟩)] 124)
        have P4 := Lib.hid (own_below O3.out k4.bel)
        have CH := Lib.hid hch
        have G4 := Lib.hid g4
        have K4 := Lib.hid k4.bel
        have hw34 := k4.bel.size
        have hw23 := Kh.out.size
        have lcb := Lib.hid H1.out.len
        clear hch g4 k4 hr3 cT3 lT3 R3 O3
        go_wp2_with (at_builtin; refine wpList_append_lies _ rfl (.tmp 39) (.tmp 41) _ rfl w1.heap.size 124 i1 (.pointer none) 1 8 Tryz.underlying139 hig hy0 hy1 hy2 rfl (by decide) (.slice A4 cbs.length c4) _ _ rfl o4b ⟨w4.heap.size, 0, none⟩ 1 1 [.pointer (some ⟨cb, 0, none⟩)] rfl rfl (cells_one _ _ _) (one_ptr _) (by omega) (by unfold maxLen; have := lcb.out; omega) (by have := lcb.out; omega) (by simp; omega) _ rfl ?_; intro g2 c2 w6 ho2 hg2 hat2 hl2)
        have kg6 := Keep.grown (S := fun q => (Value.slice A4 cbs.length c4).ownBlock = some q) hg2 (fun j h => h)
        have K6 := (Keep.of_below (S := fun q => (Value.slice A4 cbs.length c4).ownBlock = some q) (below_al (Below.refl _ w4) (.cells #[.pointer (some ⟨cb, 0, none⟩)] 124))).trans kg6
        have ne64 := own_ne P4.out o4 (by decide)
        have P6 := K6.row P4.out (fun g hg e => by rcases ne64 with h | h; exact absurd (hg.symm.trans h) (by simp); exact h (hg.trans e.symm))
        have G6 := G4.out.owns K6 (fun i hi => by have := own_base o4 i hi; omega)
        have B6 : Below w1.heap.size w1 w6 := by
          refine (H1.out.r.trans (Kh.out.to_below hws (fun i hi => own_base H1.out.rh i hi))).trans ((K4.out.mono (by omega)).trans (K6.to_below (by omega) (fun i hi => own_base o4 i hi)))
        have HAT6 : ∀ q, q = g2 → (Value.slice A4 cbs.length c4).ownBlock = some q ∨ w4.heap.size ≤ q := fun q e => by subst e; rcases hat2 with h | h; exact .inl h; exact .inr (by have h2 := h; simp at h2; omega)
        have H6 : Hid (BkS w0 w1 w6 gb mb sb qb c n pg tk t (fstT t (j + 1)) (.slice (some ⟨g2, 0, none⟩) (cbs.length + 1) c2) (.slice (some ⟨g1, 0, none⟩) ((fstT t j).length + 1) c1) (cbs ++ [cb])) := Lib.hid (by
          rw [HST.out]
          refine ⟨G6, B6, ?_, ?_, ?_, fun k i cb' hk hcb => ?_⟩
          · rw [List.length_append, List.map_append]
            have e1 : natV ((fstT t j).map (fun i => (t.at' i).n) ++ [j].map (fun i => (t.at' i).n)) = natV ((fstT t j).map (fun i => (t.at' i).n)) ++ [Value.int .i64 (NJ : Nat)] := by rw [HNJ.out]; simp [natV]
            rw [e1]
            exact P6
          · rw [List.length_append, ptrs_app]
            exact ho2
          · rw [List.length_append, List.length_append, lcb.out]; rfl
          · have hkl := (List.getElem?_eq_some_iff.1 hcb).1
            rw [List.length_append] at hkl
            by_cases hke : k < cbs.length
            · rw [List.getElem?_append_left hke] at hcb
              rw [List.getElem?_append_left (by rw [← lcb.out]; exact hke)] at hk
              have c1' := H1.out.chs k i cb' hk hcb
              have c2' := c1'.keep (S' := fun q => q = g1 ∨ (Value.slice A4 cbs.length c4).ownBlock = some q) Kh.out (fun i h => .inl h) (fun i h => by
                rcases h with h | h
                · rcases HAT.out i h with h3 | h3
                  · exact .inl (.inl h3)
                  · exact .inr h3
                · exact .inl (.inr h))
              have c3' := c2'.keep (S' := fun q => q = g1 ∨ (Value.slice A4 cbs.length c4).ownBlock = some q) (Keep.of_below (S := fun _ => False) K4.out) (fun i h => h.elim) (fun i h => .inl h)
              exact c3'.keep K6 (fun i h => .inr h) (fun i h => by
                rcases h with h | h
                · exact .inl (.inl (by injection h with h; exact h.symm))
                · rcases HAT6 i (by injection h with h; exact h.symm) with h3 | h3
                  · exact .inl (.inr h3)
                  · exact .inr h3)
            · have hk0 : k = cbs.length := by simp at hkl; omega
              subst hk0
              rw [List.getElem?_append_right (Nat.le_refl _), Nat.sub_self] at hcb
              rw [List.getElem?_append_right (by rw [← lcb.out]; exact Nat.le_refl _), lcb.out, Nat.sub_self] at hk
              injection hk with hk
              injection hcb with hcb
              subst hk hcb
              have c2' := ((ChX.of (S := fun q => q = g1 ∨ (Value.slice A4 cbs.length c4).ownBlock = some q) CH.out (fun i h => by
                rcases h with h | h
                · have := own_lt H1.out.rh i
                  rcases HAT.out i h with h3 | h3
                  · have := own_lt H1.out.rh i h3; omega
                  · subst h; exact hl1.out
                · have := own_lt H1.out.ro i h; omega)).mono (C' := w1.heap.size) (by omega))
              exact c2'.keep K6 (fun i h => .inr h) (fun i h => by
                rcases h with h | h
                · exact .inl (.inl (by injection h with h; exact h.symm))
                · rcases HAT6 i (by injection h with h; exact h.symm) with h3 | h3
                  · exact .inl (.inr h3)
                  · exact .inr h3))
        clear kg6 K6 ne64 P6 G6 B6 HAT6 ho2 hg2 hat2 hl2 o4 o4b
        go_roundg (gk - 1)
        case measure => omega
        case rel => exact ⟨j + 1, _, by omega, by simp, by omega, H6⟩
    · obtain rfl : j = M := by omega
      obtain ⟨A5, c5, h5⟩ := own_slice H1.out.rh
      obtain ⟨A4, c4, h4⟩ := own_slice H1.out.ro
      subst h5 h4
      have HR := Lib.hid (row_mono H1.out.ro hw1)
      have HB := Lib.hid (below_base B1.out hw1 H1.out.r)
      have HL := Lib.hid H1.out.len
      have HG := Lib.hid H1.out.g
      have HC : Hid (∀ (k i cb : Nat), (fstT t j)[k]? = some i → cbs[k]? = some cb → Ch w.heap.size wr cb gb ((t.at' i).pags (t.dep i))) := Lib.hid (fun k i cb hk hc => (H1.out.chs k i cb hk hc).ch.mono hw1)
      clear H1
      go_wp2_with fail
      go_ret2
      exact ⟨A4, c4, cbs, by rw [← HL.out]; rfl, HL.out, by rw [← HL.out]; exact HR.out, HC.out, HG.out, HB.out⟩
end Go.Proofs.YtijhamllnnilbaaGreatDoor.Ha
