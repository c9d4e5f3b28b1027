/- The contract of the book's growInts: each list grown, by one and by many. -/
import Derived.Test.YtlinolgbpnokcaaGreatDoorBookPut
namespace Go.Proofs.YtlinolgbpnokcaaGreatDoor.Bk
open Go.RowKit Go.Proofs.YtlinolgbpnokcaaGreatDoor.Mem

/-- A list as it is read. -/
def Rd (w : World) (v : Value) (xs : List Int) : Prop :=
  (v = .slice none 0 0 ∧ xs = []) ∨ ∃ g c, v = .slice (some ⟨g, 0, none⟩) xs.length c ∧ g < w.heap.size ∧ xs.length ≤ 9223372036854775807 ∧ ∀ j, j < xs.length → w.cell? ⟨g, j, none⟩ = some (.int .i64 (xs.getD j 0))
theorem Rd.of {w : World} {base n : Nat} {e : TypeId} {v : Value} {xs : List Int} (h : w.ownsRow base e 1 v n (ints xs)) : Rd w v xs := by
  have hlen : xs.length = n := by have := h.1; simp [ints] at this; exact this
  rcases h.2 with ⟨h1, h2⟩ | ⟨g, cap, cur, h1, _, h3, h4, h5, _⟩
  · exact .inl ⟨h1, List.eq_nil_of_length_eq_zero (by omega)⟩
  · subst h1
    refine .inr ⟨g, cap, by rw [hlen], lt_of_block h3, by simp only [maxLen] at h5; omega, fun j hj => ?_⟩
    exact own_at h j _ (by simp [ints, List.getElem?_eq_getElem hj, List.getD_eq_getElem?_getD])
theorem Rd.lt {w : World} {v : Value} {xs : List Int} (h : Rd w v xs) (g : Nat) (hg : v.ownBlock = some g) : g < w.heap.size := by
  rcases h with ⟨rfl, _⟩ | ⟨g', c, rfl, hl, _⟩
  · cases hg
  · have : g' = g := by simpa [Value.ownBlock] using hg
    omega
theorem Rd.ints {w : World} {v : Value} {xs : List Int} (h : Rd w v xs) : ∃ A c, v = .slice A xs.length c ∧ Ints w A xs.length xs := by
  rcases h with ⟨rfl, rfl⟩ | ⟨g, c, rfl, hl, hm, hc⟩
  · exact ⟨none, 0, rfl, rfl, by simp, fun h => absurd h (by simp)⟩
  · exact ⟨_, c, rfl, rfl, hm, fun _ => ⟨g, 0, rfl, hl, fun j hj => by rw [Nat.zero_add]; exact hc j hj⟩⟩
theorem Rd.grown {w w' : World} {v : Value} {xs : List Int} {row : Option Nat} (h : Rd w v xs) (hg : w.grownBy w' row) (hk : ∀ g, row = some g → v.ownBlock = some g → ∀ j, j < xs.length → w'.cell? ⟨g, j, none⟩ = some (.int .i64 (xs.getD j 0))) : Rd w' v xs := by
  rcases h with h | ⟨g, c, rfl, hl, hm, hc⟩
  · exact .inl h
  · refine .inr ⟨g, c, rfl, Nat.lt_of_lt_of_le hl hg.size, hm, fun j hj => ?_⟩
    by_cases e : row = some g
    · exact hk g e rfl j hj
    · exact (World.cell?_of_block (a := ⟨g, j, none⟩) (hg.block g hl fun e' => e e'.symm)).trans (hc j hj)
theorem Rd.same {w w' : World} {v : Value} {xs : List Int} (h : Rd w v xs) (hs : w.heap.size ≤ w'.heap.size) (hb : ∀ g, v.ownBlock = some g → g < w.heap.size → w'.heap[g]? = w.heap[g]?) : Rd w' v xs := by
  rcases h with h | ⟨g, c, rfl, hl, hm, hc⟩
  · exact .inl h
  · exact .inr ⟨g, c, rfl, Nat.lt_of_lt_of_le hl hs, hm, fun j hj => (World.cell?_of_block (a := ⟨g, j, none⟩) (hb g rfl hl)).trans (hc j hj)⟩
theorem Rd.below {w w' : World} {v : Value} {xs : List Int} (h : Rd w v xs) (hb : Below w.heap.size w w') : Rd w' v xs := h.same hb.size fun g _ hg => hb.block g hg

/-- The book while its lists are grown: all are read as they were marked; those from q on are owned; those ahead of j have been grown. -/
structure Gr (B pb n j q : Nat) (w : World) (o : Nat → Nat) (V O : Nat → Value) (L : Nat → Nat) (vI vW vo : Value) : Prop where
  hB : B ≤ pb
  blk : w.heap[pb]? = some (.cells (bcs vI vW) 41 (0, 0))
  sl : ∃ A c, vW = .slice A n c
  rI : w.ownsRow B 29 1 vI n (hdr V n)
  rd : ∀ i, i < n → Rd w (V i) (mks i 0 (L i))
  rv : ∀ i, q ≤ i → i < n → w.ownsRow B 3 1 (V i) (L i) (ints (mks i 0 (L i)))
  rO : ∀ i, i < j → w.ownsRow B 3 1 (O i) (L i + 72) (ints (mks i 0 (L i + 72)))
  ro : w.ownsRow B 29 1 vo j (hdr O j)
  tp : o pb = 0
  tI : Tag o vI 1
  tv : ∀ i, i < n → Tag o (V i) (2 * i + 3)
  tO : ∀ i, i < j → Tag o (O i) (2 * i + 3)
  to : Tag o vo 2
section
variable {B pb n j q : Nat} {w w' : World} {o : Nat → Nat} {V O : Nat → Value} {L : Nat → Nat} {vI vW vo : Value}
theorem Gr.below (h : Gr B pb n j q w o V O L vI vW vo) (hb : Below w.heap.size w w') : Gr B pb n j q w' o V O L vI vW vo :=
  ⟨h.hB, blk_keep h.blk hb, h.sl, own_below h.rI hb, fun i hi => (h.rd i hi).below hb, fun i h1 h2 => own_below (h.rv i h1 h2) hb, fun i hi => own_below (h.rO i hi) hb, own_below h.ro hb, h.tp, h.tI, h.tv, h.tO, h.to⟩
theorem Gr.le (h : Gr B pb n j q w o V O L vI vW vo) {q' : Nat} (hq : q ≤ q') : Gr B pb n j q' w o V O L vI vW vo :=
  ⟨h.hB, h.blk, h.sl, h.rI, h.rd, fun i h1 h2 => h.rv i (by omega) h2, h.rO, h.ro, h.tp, h.tI, h.tv, h.tO, h.to⟩
theorem Lists.gr {Y : Nat → List Int} (h : Lists B pb n w o V Y vI vW) (hY : ∀ i, i < n → Y i = mks i 0 (L i)) : Gr B pb n 0 0 w o V O L vI vW nl :=
  ⟨h.hB, h.blk, h.sl, h.rI, fun i hi => by have := h.rv i hi; rw [hY i hi] at this; exact Rd.of this, fun i _ hi => by have := h.rv i hi; rw [hY i hi, mks_len] at this; exact this, fun i hi => absurd hi (by omega), World.ownsRow_nil _ _ _ _, h.tp, h.tI, h.tv, fun i hi => absurd hi (by omega), tag_nil _ _⟩
/-- An append to row j. -/
theorem Gr.app {row : Option Nat} (h : Gr B pb n j (j + 1) w o V O L vI vW vo) (hg : w.grownBy w' row) (ht : ∀ g, row = some g → o g = 2 * j + 3)
    (hk : ∀ g, row = some g → ∀ i, i < L j → w'.cell? ⟨g, i, none⟩ = some (.int .i64 ((mks j 0 (L j)).getD i 0))) :
    Gr B pb n j (j + 1) w' (ext o w.heap.size (2 * j + 3)) V O L vI vW vo := by
  have hp := lt_of_block h.blk
  have hb : ∀ g, g < w.heap.size → o g ≠ 2 * j + 3 → w'.heap[g]? = w.heap[g]? := fun g hl hne => hg.block g hl fun e => hne (ht g e.symm)
  refine ⟨h.hB, by rw [hb pb hp (by rw [h.tp]; omega)]; exact h.blk, h.sl, row_same h.rI fun g hg => hb g (row_lt h.rI g hg) (by rw [h.tI g hg]; omega), fun i hi => ?_, fun i h1 h2 => ?_, fun i hi => ?_, ?_, by rw [ext_lt hp]; exact h.tp, h.tI.ext (row_lt h.rI), fun i hi => (h.tv i hi).ext (h.rd i hi).lt, fun i hi => (h.tO i hi).ext (row_lt (h.rO i hi)), h.to.ext (row_lt h.ro)⟩
  · by_cases e : i = j
    · subst e
      exact (h.rd i hi).grown hg fun g hr _ k hkk => hk g hr k (by rw [mks_len] at hkk; exact hkk)
    · exact (h.rd i hi).same hg.size fun g hg hl => hb g hl (by rw [h.tv i hi g hg]; omega)
  · exact row_same (h.rv i h1 h2) fun g hg => hb g (row_lt (h.rv i h1 h2) g hg) (by rw [h.tv i h2 g hg]; omega)
  · exact row_same (h.rO i hi) fun g hg => hb g (row_lt (h.rO i hi) g hg) (by rw [h.tO i hi g hg]; omega)
  · exact row_same h.ro fun g hg => hb g (row_lt h.ro g hg) (by rw [h.to g hg]; omega)
/-- The grown row j is kept. -/
theorem Gr.out {l vo' : Value} (h : Gr B pb n j (j + 1) w o V O L vI vW vo) (rl : w.ownsRow B 3 1 l (L j + 72) (ints (mks j 0 (L j + 72)))) (tl : Tag o l (2 * j + 3))
    (hg : w.grownBy w' vo.ownBlock) (ho : w'.ownsRow B 29 1 vo' (j + 1) (hdr O j ++ [l])) (hat : vo'.ownBlock = vo.ownBlock ∨ vo'.ownBlock = some w.heap.size) :
    Gr B pb n (j + 1) (j + 1) w' (ext o w.heap.size 2) V (upd O j l) L vI vW vo' := by
  have hp := lt_of_block h.blk
  have hb : ∀ g, g < w.heap.size → o g ≠ 2 → w'.heap[g]? = w.heap[g]? := fun g hl hne => hg.block g hl fun e => hne (h.to g e.symm)
  refine ⟨h.hB, by rw [hb pb hp (by rw [h.tp]; omega)]; exact h.blk, h.sl, row_same h.rI fun g hg => hb g (row_lt h.rI g hg) (by rw [h.tI g hg]; omega), fun i hi => ?_, fun i h1 h2 => ?_, fun i hi => ?_, ?_, by rw [ext_lt hp]; exact h.tp, h.tI.ext (row_lt h.rI), fun i hi => (h.tv i hi).ext (h.rd i hi).lt, fun i hi => ?_, ?_⟩
  · exact (h.rd i hi).same hg.size fun g hg hl => hb g hl (by rw [h.tv i hi g hg]; omega)
  · exact row_same (h.rv i h1 h2) fun g hg => hb g (row_lt (h.rv i h1 h2) g hg) (by rw [h.tv i h2 g hg]; omega)
  · by_cases e : i < j
    · rw [upd_lt _ _ e]
      exact row_same (h.rO i e) fun g hg => hb g (row_lt (h.rO i e) g hg) (by rw [h.tO i e g hg]; omega)
    · obtain rfl : i = j := by omega
      rw [upd_same]
      exact row_same rl fun g hg => hb g (row_lt rl g hg) (by rw [tl g hg]; omega)
  · rw [hdr_upd]
    exact ho
  · by_cases e : i < j
    · rw [upd_lt _ _ e]
      exact (h.tO i e).ext (row_lt (h.rO i e))
    · obtain rfl : i = j := by omega
      rw [upd_same]
      exact tl.ext (row_lt rl)
  · exact tag_append h.to hat (row_lt h.ro)
end

theorem ints_one (l : List Int) : ∀ u ∈ ints l, u.oneCell' = true := by
  intro u hu
  simp [ints] at hu
  obtain ⟨z, _, rfl⟩ := hu
  rfl

/-- Where the loop over one list stands: grown by t. -/
def InG (B pb n j : Nat) (w : World) (V O : Nat → Value) (L : Nat → Nat) (vI vW vo l : Value) (t : Nat) (wr : World) : Prop :=
  ∃ o, Gr B pb n j (j + 1) wr o V O L vI vW vo ∧ wr.ownsRow B 3 1 l (L j + t) (ints (mks j 0 (L j + t))) ∧ Tag o l (2 * j + 3) ∧ Below B w wr
theorem InG.step {B pb n j : Nat} {w wr wm w' : World} {V O : Nat → Value} {L : Nat → Nat} {vI vW vo l l' : Value} {t m : Nat} (h : InG B pb n j w V O L vI vW vo l t wr) (hB : B ≤ wr.heap.size) (hm : Below wr.heap.size wr wm)
    (hown : w'.ownsRow B 3 1 l' (L j + t + m) (ints (mks j 0 (L j + t)) ++ ints (mks j (L j + t) m))) (hg : wm.grownBy w' l.ownBlock) (hat : l'.ownBlock = l.ownBlock ∨ l'.ownBlock = some wm.heap.size)
    (hk : ∀ g, l.ownBlock = some g → ∀ i u, (ints (mks j 0 (L j + t)))[i]? = some u → w'.cell? ⟨g, i, none⟩ = some u) : InG B pb n j w V O L vI vW vo l' (t + m) w' := by
  obtain ⟨o, hG, hl, hT, hb⟩ := h
  have hlm := own_below hl hm
  refine ⟨ext o wm.heap.size (2 * j + 3), (hG.below hm).app hg (fun g hr => hT g hr) (fun g hr i hi => ?_), ?_, tag_append hT hat (row_lt hlm), below_grown (below_base hb hB hm) (Nat.le_trans hB hm.size) hl hg⟩
  · refine hk g hr i _ ?_
    have h1 : i < L j + t := by omega
    rw [mks_get _ _ _ _ hi, ← mks_get j 0 (L j + t) i h1]
    simp [ints, List.getD_eq_getElem?_getD, mks_len, h1]
  · rw [← Nat.add_assoc, mks_add, ints_app, Nat.zero_add]
    exact hown

set_option maxRecDepth 100000 in
set_option maxHeartbeats 4000000 in
theorem grow_any {B pb n : Nat} {w : World} {o : Nat → Nat} {V : Nat → Value} {L : Nat → Nat} {vI vW : Value} (hk : Gr B pb n 0 0 w o V V L vI vW nl) (hBw : B ≤ w.heap.size) (hn : n ≤ 250) (hL : ∀ i, i < n → L i ≤ 1000000) :
    Calls Tryz.prog 46 #[.pointer (some ⟨pb, 0, none⟩)] w fun e w' => ∃ o' O vo, e = .returned vo ∧ Gr B pb n n n w' o' V O L vI vW vo ∧ Below B w w' := by
  obtain ⟨i0, hif, hz0, hz1, hz2⟩ := info_parts info_int
  obtain ⟨j0, hif1, hy0, hy1, hy2⟩ := info_parts info_ints
  have Hk := Lib.hid hk
  clear hk
  go_enter Tryz.func46, Tryz.ntmps46
  go_wp2
  go_loopw [3, 4] (fun v i wr => ∃ j : Nat, i = .int .i64 j ∧ j ≤ n ∧ (∃ o O, Hid (Gr B pb n j j wr o V O L vI vW v)) ∧ Below B w wr) (fun _ i _ => n - (intOf i).toNat)
  case atStart => exact ⟨0, rfl, by omega, ⟨o, V, Hk⟩, Below.refl _ _⟩
  case round =>
    obtain ⟨j, rfl, hj, ⟨o1, O, HL⟩, hbel⟩ := hrel
    have hk := HL.out
    have c1 := blk_cell hk.blk
    have z1 := lt_of_block hk.blk
    obtain ⟨aI, cI, hvI⟩ := own_slice hk.rI
    obtain ⟨aW, cW, hvW⟩ := hk.sl
    have rI := hk.rI
    by_cases hlt : j < n
    · obtain ⟨gI, cI', hI', _, hgI⟩ := rI.form (by omega)
      rw [hI'] at c1 rI
      rw [hvW] at c1
      have d1 := hdr_at rI j hlt
      have rj := hk.rv j (Nat.le_refl _) hlt
      obtain ⟨A1, k1, e1⟩ := own_slice rj
      rw [e1] at d1 rj
      have tj := hk.tv j hlt
      rw [e1] at tj
      have hLj := hL j hlt
      have i1 : IntKind.i64.wrap ((j : Int) + 1) = (j : Int) + 1 := IntWalk.i64_in _ (by omega)
      have hmk := Lib.hid (mark_any j)
      have HI : Hid (InG B pb n j w V O L vI vW u3 (.slice A1 (L j) k1) 0 wr) := Lib.hid ⟨o1, hk.le (Nat.le_succ _), rj, tj, hbel⟩
      clear hk rI hvI rj tj HL
      go_wp2_with fail
      clear c1 z1 d1 hgI
      go_loopw [5, 6] (fun l k wi => ∃ t : Nat, k = .int .i64 t ∧ t ≤ 12 ∧ Hid (InG B pb n j w V O L vI vW u3 l t wi)) (fun _ k _ => 12 - (intOf k).toNat)
      case atStart => exact ⟨0, rfl, by omega, HI⟩
      case round =>
        clear HI hbel
        obtain ⟨t, rfl, ht, HI⟩ := hrel
        obtain ⟨o2, hG, hl, hT, hb2⟩ := HI.out
        have hBw2 := Nat.le_trans hBw hb2.size
        obtain ⟨Al, cl, rfl⟩ := own_slice hl
        have i2 : IntKind.i64.wrap ((t : Int) + 1) = (t : Int) + 1 := IntWalk.i64_in _ (by omega)
        by_cases htl : t < 12
        · clear hG hT
          go_wp2_with fail
          refine (hmk.out (L j + t) 1 _ (by omega) (by omega)).mono ?_
          rintro e w3 ⟨vm, rfl, hm, hb3⟩
          obtain ⟨gm, cm, rfl, _, _⟩ := hm.form (by omega)
          have hl3 := own_below hl hb3
          have hone := ints_one (mks j (L j + t) 1)
          have hln : (ints (mks j (L j + t) 1)).length = 1 * 1 := by simp [ints, mks_len]
          go_wp2_with (at_builtin; refine wpList_append_keeps _ rfl (.tmp 27) (.tmp 31) _ rfl B 3 i0 (.int .i64 0) 1 8 Tryz.underlying29 hif hz0 hz1 hz2 rfl (by decide) (.slice Al (L j + t) cl) (L j + t) (ints (mks j 0 (L j + t))) rfl hl3 ⟨gm, 0, none⟩ 1 cm (ints (mks j (L j + t) 1)) rfl hln (hm.cells rfl) hone (by unfold maxLen; omega) (by omega) (Nat.le_trans hBw2 hb3.size) ?_; intro l' w4 hl4 hg4 hat4 hk4)
          case roundEnd => exact ⟨⟨t + 1, by simp, by omega, Lib.hid (HI.out.step hBw2 hb3 hl4 hg4 hat4 hk4)⟩, by simp only [intOf]; omega⟩
        · obtain rfl : t = 12 := by omega
          have ho := hG.ro
          obtain ⟨Ao, co, rfl⟩ := own_slice ho
          clear hG hT ho
          have hmk60 := fun w => hmk.out (L j + 12) 60 w (by omega) (by omega)
          rw [show ((L j + 12 : Nat) : Int) = (L j : Int) + 12 by omega] at hmk60
          go_wp2_with fail
          refine (hmk60 _).mono ?_
          rintro e w3 ⟨vm, rfl, hm, hb3⟩
          obtain ⟨gm, cm, rfl, _, _⟩ := hm.form (by omega)
          have hl3 := own_below hl hb3
          have hone := ints_one (mks j (L j + 12) 60)
          have hln : (ints (mks j (L j + 12) 60)).length = 60 * 1 := by simp [ints, mks_len]
          go_wp2_with (first
            | (at_builtin; refine wpList_append_keeps _ rfl (.tmp 34) (.tmp 38) _ rfl B 3 i0 (.int .i64 0) 1 8 Tryz.underlying29 hif hz0 hz1 hz2 rfl (by decide) (.slice Al (L j + 12) cl) (L j + 12) (ints (mks j 0 (L j + 12))) rfl hl3 ⟨gm, 0, none⟩ 60 cm (ints (mks j (L j + 12) 60)) rfl hln (hm.cells rfl) hone (by unfold maxLen; omega) (by omega) (Nat.le_trans hBw2 hb3.size) ?_; intro l' w4 hl4 hg4 hat4 hk4; obtain ⟨o3, hG3, hl5, hT3, hb5⟩ := HI.out.step hBw2 hb3 hl4 hg4 hat4 hk4; obtain ⟨Al', cl', rfl⟩ := own_slice hl4; clear hl4 hg4 hat4 hk4 hl3 hm)
            | (at_builtin; refine wpList_append_own_at _ rfl (.tmp 33) (.tmp 40) _ rfl B 29 j0 nl 1 24 Tryz.underlying31 hif1 hy0 hy1 hy2 rfl (by decide) (.slice Ao j co) j (hdr O j) rfl (hG3.ro.alloc _) ⟨w4.heap.size, 0, none⟩ 1 1 [.slice Al' (L j + 12 + 60) cl'] rfl rfl (cells_one _ _ _) (by intro u hu; simp at hu; subst hu; rfl) (by unfold maxLen; omega) (by omega) (by have := hb5.size; simp; omega) ?_; intro vo' w5 ho5 hg5 _ hat5))
          case roundEnd =>
            have hG4 := hG3.below (below_al (Below.refl _ w4) (.cells #[.slice Al' (L j + 12 + 60) cl'] 29))
            have hG5 := hG4.out (hl5.alloc _) hT3 hg5 ho5 hat5
            exact ⟨⟨j + 1, by simp, by omega, ⟨_, _, Lib.hid hG5⟩, below_grown (hb5.alloc (Nat.le_trans hBw hb5.size) _) (by have := hb5.size; simp; omega) hG3.ro hg5⟩, by simp only [intOf]; omega⟩
    · obtain rfl : j = n := by omega
      rw [hvI, hvW] at c1
      clear hk rI
      obtain ⟨Ao, co, hvo⟩ := own_slice HL.out.ro
      go_wp2
      go_ret
      exact ⟨o1, O, _, rfl, HL.out, hbel⟩
end Go.Proofs.YtlinolgbpnokcaaGreatDoor.Bk
