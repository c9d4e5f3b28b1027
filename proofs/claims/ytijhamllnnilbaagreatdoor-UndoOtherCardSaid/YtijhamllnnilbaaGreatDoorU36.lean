/- Lemmas of the claim, in their order:
- The contract of hash's visit.
-/
import Derived.Test.YtijhamllnnilbaaGreatDoorU34
import Derived.Test.YtijhamllnnilbaaGreatDoorU35
set_option linter.unusedVariables false
set_option linter.unusedSimpArgs false
namespace Go.Proofs.YtijhamllnnilbaaGreatDoor.Ha
open Go.RowKit Go.Proofs.YtijhamllnnilbaaGreatDoor.Mem Go.Proofs.YtijhamllnnilbaaGreatDoor.Pg Go.Proofs.YtijhamllnnilbaaGreatDoor.Kp Go.Proofs.YtijhamllnnilbaaGreatDoor.Sp Go.Proofs.YtijhamllnnilbaaGreatDoor.Gr
set_option linter.unusedSimpArgs false
set_option linter.unusedVariables false
def keyV (l : List (List UInt8)) : List Value := l.map fun k => .string (str k)
theorem contains_no (w : World) (base : Nat) (v : Value) (ks : List (List UInt8)) (k : List UInt8) (h : w.ownsRow base 9 1 v ks.length (keyV ks)) (hl : ks.length ≤ 100000) (hk : k ∉ ks) :
    Calls Tryz.prog 154 #[v, .string (str k)] w fun e w' => e = .returned (.bool false) ∧ w' = w := by
  rcases Nat.eq_zero_or_pos ks.length with h0 | h0
  · obtain ⟨A, c, rfl⟩ := own_slice h
    rw [h0]
    exact Tryz.slices_Contains_string_empty A c (str k) w
  · obtain ⟨g, cap, rfl, _, _⟩ := h.form h0
    have hc := Tryz.slices_Contains_string g 0 ks.length cap (ks.map str) (str k) w (by simp) (by omega) (fun j hj => by
      have hj' : j < ks.length := by simpa using hj
      rw [Nat.zero_add, List.getD_eq_getElem?_getD, List.getElem?_map, List.getElem?_eq_getElem hj', Option.map_some, Option.getD_some]
      exact own_at h j _ (by simp [keyV, hj']))
    have e : Lib.containsS ((ks.map str).take ks.length) (str k) = false := by
      rw [Bool.eq_false_iff]
      intro h1
      rw [Lib.containsS_iff, List.take_of_length_le (by simp)] at h1
      obtain ⟨a, ha, e⟩ := List.mem_map.1 h1
      have e2 : (str a).data.toList = (str k).data.toList := by rw [e]
      exact hk ((show a = k from e2) ▸ ha)
    rw [e] at hc
    exact hc
theorem info_str : (Tryz.prog.info? 9).map (fun i => (i.zero, i.size, i.bytes)) = some (some (.string ⟨#[]⟩), 1, 16) := by kernel_rfl
theorem flatP_step' {α β : Type} (f : α → List β) (l : List α) (i : Nat) (hi : i < l.length) : (l.take (i + 1)).flatMap f = (l.take i).flatMap f ++ f l[i] := by
  rw [List.take_succ_eq_append_getElem hi, List.flatMap_append]; simp
set_option maxRecDepth 100000 in
set_option maxHeartbeats 8000000 in
theorem visit_ok (w0 wu w : World) (gb mb sb qb c n d cb C rb mk own : Nat) (pg : Nat → Pag) (tk : Int) (b : Lf) (vl : Cel → List UInt8) (pl : Cel → List Nat) (V : List Nat)
    (hG : GV w0 wu gb mb sb qb c n pg tk) (hch : Ch C wu cb gb (b.pags d)) (hwu : Below wu.heap.size wu w) (hR : Rch w rb mk V) (hrb : wu.heap.size ≤ rb ∧ wu.heap.size ≤ mk) (hd : d ≤ 31)
    (hfits : ∀ p, p ∈ b.pgs → Fits p.2) (hlen : b.pgs.length ≤ 64) (hcel : ∀ x, x ∈ b.cells → bitsF x.key d = own ∧ x.ok ∧ BlobAt n pg x (vl x) (pl x)) (hkeys : (b.cells.map Cel.key).Nodup)
    (hn : (V ++ visF pl b).Nodup) (h64 : ∀ m, m ∈ V ++ visF pl b → m < 64) :
    Calls Tryz.prog 68 #[.pointer (some ⟨cb, 0, none⟩), .pointer (some ⟨rb, 0, none⟩)] w fun e w' => e = .returned (.bool true) ∧ Rch w' rb mk (V ++ visF pl b) ∧ Below wu.heap.size wu w' := by
  obtain ⟨i0, hif, hz0, hz1, hz2⟩ := info_parts info_str
  have hLl : (b.pags d).length = b.nums.length := by unfold Lf.pags Lf.nums; rw [pagsF_len, List.length_map]
  have hnl : b.nums.length = b.pgs.length := by unfold Lf.nums; rw [List.length_map]
  have hpos : 0 < b.pgs.length := Nat.succ_pos _
  have hgl := hG.lt
  have hchw := hch.below hwu
  obtain ⟨nb, pb, cn, cp, hf0⟩ := hch.form (by omega)
  have hlt1 := hf0.nl
  have hlt2 := hf0.pl
  have hlt3 := lt_of_block hf0.blk
  have hf := hf0.below hwu
  have hI : Ints w (some ⟨nb, 0, none⟩) b.nums.length (toI b.nums) := ⟨toI_len _, by omega, fun _ => ⟨nb, 0, rfl, hf.nl, fun j hj => by
    have hj2 : j < (b.pags d).length := by omega
    have h1 := hf.num j (b.pags d)[j].1 (b.pags d)[j].2 (List.getElem?_eq_getElem hj2)
    rw [Nat.zero_add, toI_getD _ _ hj, h1]
    have h2 : b.nums[j]? = some (b.pags d)[j].1 := by
      have h3 : (b.pags d).map (·.1) = b.nums := by unfold Lf.pags Lf.nums; exact pagsF_nums ..
      rw [← h3, List.getElem?_map, List.getElem?_eq_getElem hj2]; rfl
    rw [List.getElem?_eq_getElem hj] at h2
    injection h2 with h2
    rw [h2]⟩⟩
  have hadd := radd_ok w rb mk V b.nums (some ⟨nb, 0, none⟩) cn hR hI (by
    have h1 := hn
    unfold visF at h1
    rw [← List.append_assoc] at h1
    exact (List.nodup_append.1 h1).1) (fun m hm => h64 m (by
    rcases List.mem_append.1 hm with h | h
    · exact List.mem_append_left _ h
    · exact List.mem_append_right _ (List.mem_append_left _ h))) (fun b' off e => by injection e with e; injection e with e1 e2; omega)
  have hcs := fun W (hW : Below wu.heap.size wu W) => ccells_any W C cb gb _ b.pgs (hch.below hW) (bkL_pags 3 d (.inl rfl) _ hfits) (by omega) (by omega)
  have htot := cellsP_getLe hfits hlen
  have hdep : ∀ W, Below wu.heap.size wu W → W.cell? ⟨pb, 0 * 4 + 1, none⟩ = some (.int .i64 (d : Int)) := fun W hW => by
    have h1 := (hf0.pag 0 b.n _ rfl).2.1
    exact (hW.cell (p := ⟨pb, 0 * 4 + 1, none⟩) hlt2).trans h1
  rw [← Lf.cells_eq] at hcs htot
  have HB := Lib.hid hf0.blk
  rw [hLl] at HB
  have HC := Lib.hid hcel
  have HK := Lib.hid hkeys
  have HN := Lib.hid hn
  have H6 := Lib.hid h64
  have HD := Lib.hid hdep
  have HCS := Lib.hid hcs
  have B0 := Lib.hid hwu
  have G0 := Lib.hid hG
  have hvis : Hid (visF pl b = b.nums ++ b.cells.flatMap pl) := Lib.hid rfl
  have cb0 := blk_cell (blk_keep HB.out hwu)
  have lb0 := lt_of_block (blk_keep HB.out hwu)
  generalize hcsE : b.cells = cs at *
  generalize hNU : b.nums = NU at *
  have hnumP : (0 : Int) < (NU.length : Int) := by omega
  have HNL := Lib.hid (And.intro hnl hlen)
  clear hcel hkeys hnl hpos hn h64 hdep hcs hwu hG hf hf0 hI hR hchw hch hcsE hNU hfits hLl hlen
  go_enter Tryz.func68, Tryz.ntmps68
  go_wp2_with fail
  with_reducible refine hadd.mono ?_
  rintro e w1 ⟨rfl, hr1, hk1⟩
  have R1 := Lib.hid hr1
  have B1 := Lib.hid (below_keep B0.out B0.out.size hk1 (fun i hi => by omega))
  have hc1 := HCS.out w1 B1.out
  have hs1 := hk1.size
  clear hr1 hk1 hadd cb0 lb0
  go_wp2_with fail
  with_reducible refine hc1.mono ?_
  rintro e w2 ⟨A2, c2, rfl, ho2, hb2⟩
  have O2 := Lib.hid ho2
  have R2 : Hid (Rch w2 rb mk (V ++ NU ++ (cs.take 0).flatMap pl)) := Lib.hid (by rw [List.take_zero, List.flatMap_nil, List.append_nil]; exact R1.out.below hb2)
  have B2 := Lib.hid (below_base B1.out B1.out.size hb2)
  have hrl : rb < w1.heap.size ∧ mk < w1.heap.size := ⟨lt_of_block R1.out.blk, R1.out.map.lt⟩
  have hs2 := hb2.size
  clear ho2 hb2 hc1 R1
  go_wp2_with fail
  go_loopg [5, 6, 21] cs.length (fun k v5 v6 v21 wr => ∃ i : Nat, k + i = cs.length ∧ v21 = .int .i64 (i : Nat) ∧ i ≤ cs.length ∧ v5 = .int .i64 (if i = 0 then -1 else (own : Int)) ∧
    Hid (wr.ownsRow w2.heap.size 9 1 v6 i (keyV ((cs.take i).map Cel.key))) ∧ Hid (Rch wr rb mk (V ++ NU ++ (cs.take i).flatMap pl)) ∧ Hid (Keep (fun q => q = rb ∨ q = mk) w2 wr))
  case atStart => exact ⟨0, rfl, rfl, Nat.zero_le _, rfl, Lib.hid ⟨rfl, .inl ⟨rfl, rfl⟩⟩, R2, Lib.hid (Keep.refl _ _)⟩
  case round =>
    clear R2
    obtain ⟨i, hki, rfl, hi, rfl, K1, R1, F1⟩ := hrel
    by_cases hil : i < cs.length
    · have hiI : (i : Int) < (cs.length : Int) := by omega
      have i1w : IntKind.i64.wrap ((i : Int) + 1) = (i : Int) + 1 := IntWalk.i64_in _ (by omega)
      have o2 := F1.out.row O2.out (fun g hg e => by have := own_base O2.out g hg; omega)
      obtain ⟨g2, rfl⟩ : ∃ g, A2 = some ⟨g, 0, none⟩ := by
        rcases o2.2 with ⟨_, h0⟩ | ⟨g, cap, cur, h0, _⟩
        · omega
        · injection h0 with h0; exact ⟨g, h0⟩
      have pc := fun r (hr : r < 4) (u : Value) (hu : (cs[i].cells)[r]? = some u) => own_at o2 (i * 4 + r) u ((flatC_at hil r hr).trans hu)
      have p0 := pc 0 (by omega) _ rfl
      have p1 := pc 1 (by omega) _ rfl
      have p2 := pc 2 (by omega) _ rfl
      have p3 := pc 3 (by omega) _ rfl
      rw [Nat.add_zero] at p0
      have lg := own_lt o2 g2 rfl
      obtain ⟨hbb, hxo, hxb⟩ := HC.out _ (List.getElem_mem hil)
      have hk16 := hxo.key.2
      have hbits := fun W => bits_any cs[i].key d hd W (by omega)
      rw [hbb] at hbits
      have BR := Lib.hid (below_keep B2.out B2.out.size F1.out (fun q hq => by omega))
      have hblobs := fun W (hW : Below wu.heap.size wu W) => blobs_ok w0 W gb mb sb qb c n pg tk cs[i] _ _ (G0.out.rk hW) hxo hxb
      have hkno : cs[i].key ∉ (cs.take i).map Cel.key := fun hm => by
        have h1 := HK.out
        rw [← List.take_append_drop i cs, List.map_append, List.nodup_append] at h1
        refine h1.2.2 _ hm cs[i].key ?_ rfl
        rw [List.drop_eq_getElem_cons hil]
        exact List.mem_cons_self ..
      obtain ⟨A6, c6, h6⟩ := own_slice K1.out
      subst h6
      have hkl : ((cs.take i).map Cel.key).length = i := by rw [List.length_map, List.length_take]; omega
      have hcon := fun W (hW : World.ownsRow W w2.heap.size 9 1 (.slice A6 i c6) i (keyV ((cs.take i).map Cel.key))) => contains_no W w2.heap.size (.slice A6 i c6) ((cs.take i).map Cel.key) cs[i].key (by rw [hkl]; exact hW) (by rw [hkl]; omega) hkno
      have hkst : keyV ((cs.take (i + 1)).map Cel.key) = keyV ((cs.take i).map Cel.key) ++ [.string (str cs[i].key)] := by
        rw [List.take_succ_eq_append_getElem hil, List.map_append]; simp [keyV]
      have hvst : V ++ NU ++ (cs.take (i + 1)).flatMap pl = (V ++ NU ++ (cs.take i).flatMap pl) ++ pl cs[i] := by
        rw [flatP_step' pl cs i hil]; simp only [List.append_assoc]
      have hpre : (V ++ NU ++ (cs.take (i + 1)).flatMap pl).Nodup := by
        have h1 := HN.out
        rw [hvis.out, ← List.append_assoc] at h1
        refine List.Nodup.sublist ?_ h1
        refine List.Sublist.append_left ?_ _
        have e : cs.flatMap pl = (cs.take (i + 1)).flatMap pl ++ (cs.drop (i + 1)).flatMap pl := by rw [← List.flatMap_append, List.take_append_drop]
        rw [e]
        exact List.sublist_append_left _ _
      have hpre64 : ∀ m, m ∈ V ++ NU ++ (cs.take (i + 1)).flatMap pl → m < 64 := fun m hm => H6.out m (by
        rw [hvis.out, ← List.append_assoc]
        rcases List.mem_append.1 hm with h | h
        · exact List.mem_append_left _ h
        · obtain ⟨x, hx1, hx2⟩ := List.mem_flatMap.1 h
          exact List.mem_append_right _ (List.mem_flatMap.2 ⟨x, List.mem_of_mem_take hx1, hx2⟩))
      rw [hvst] at hpre hpre64
      have HVST := Lib.hid hvst
      have HKST := Lib.hid hkst
      have HPRE := Lib.hid (And.intro hpre hpre64)
      obtain ⟨XL, hXL⟩ : ∃ l, l = pl cs[i] := ⟨_, rfl⟩
      rw [← hXL] at hblobs HVST HPRE
      obtain ⟨U1, hU1⟩ : ∃ U, U = str cs[i].key := ⟨_, rfl⟩
      obtain ⟨U2, hU2⟩ : ∃ U, U = str cs[i].val := ⟨_, rfl⟩
      obtain ⟨xb, hxb'⟩ : ∃ b : Int, b = cs[i].blob := ⟨_, rfl⟩
      obtain ⟨xz, hxz⟩ : ∃ b : Int, b = cs[i].size := ⟨_, rfl⟩
      simp only [Cel.v] at hblobs
      rw [← hU1, ← hU2, ← hxb', ← hxz] at hblobs
      rw [← hU1] at hbits p0 hcon HKST
      rw [← hU2] at p1
      rw [← hxb'] at p2
      rw [← hxz] at p3
      generalize V ++ NU ++ (cs.take i).flatMap pl = VI at *
      have HBits := Lib.hid hbits
      have HBl := Lib.hid hblobs
      have HCon := Lib.hid hcon
      have B5 := Lib.hid (below_al BR.out (celO U1 U2 xb xz))
      have z5 := heap_alloc_new wr (celO U1 U2 xb xz)
      have R5 := Lib.hid (R1.out.below (below_al (Below.refl _ wr) (celO U1 U2 xb xz)))
      have K5 := Lib.hid (own_below K1.out (below_al (Below.refl _ wr) (celO U1 U2 xb xz)))
      have F5 := Lib.hid (F1.out.below (below_al (Below.refl _ wr) (celO U1 U2 xb xz)))
      have Z5 := Lib.hid z5
      have Hkb : Hid (∀ g, (Value.slice A6 i c6).ownBlock = some g → g < wr.heap.size ∧ w2.heap.size ≤ g) := Lib.hid (fun g hg => ⟨own_lt K1.out g hg, own_base K1.out g hg⟩)
      have hrb2 : rb < w2.heap.size ∧ mk < w2.heap.size := by omega
      obtain ⟨x5, hx5⟩ : ∃ x : Int, x = (if i = 0 then -1 else (own : Int)) := ⟨_, rfl⟩
      rw [← hx5]
      have Hx5 : Hid (x5 < 0 ∨ x5 = (own : Int)) := Lib.hid (by
        rw [hx5]
        by_cases e : i = 0
        · rw [if_pos e]; left; decide
        · rw [if_neg e]; right; rfl)
      clear hx5
      clear hXL hU1 hU2 hxb' hxz pc o2 hbb hk16 hxo hxb hkno hkl hkst hvst hpre hpre64 z5 hbits hblobs hcon R1 K1 F1
      go_wp2_with fail
      obtain ⟨w5, hw5⟩ : ∃ w5, w5 = wr.alloc (celO U1 U2 xb xz) := ⟨_, rfl⟩
      rw [← hw5] at B5 R5 K5 F5 Z5 ⊢
      clear hw5 p0 p1 p2 p3 lg
      refine wp_region_held_drew (S := (Bz w5)) (by kernel_rfl) (below_dr (Below.refl _ _)) (fun hHeld => ?_)
      refine Ra.W 0 ?_ ?_ hHeld ?_
      rotate_left
      · intro wq hSw
        go_simp
        try with_reducible rfl
      try simp only [Act.put, List.getElem_toArray, List.getElem_cons_succ, List.getElem_cons_zero, List.setIfInBounds_toArray, List.set_cons_zero, List.set_cons_succ]
      refine Ra.W 1 ?_ ?_ hHeld ?_
      rotate_left
      · intro wq hSw
        have hSu := below_base B5.out B5.out.size hSw; have hSc := blk_cell (blk_keep HB.out hSu); have hSl := lt_of_block (blk_keep HB.out hSu); have hSd := blk_cell (blk_keep Z5.out hSw); have hSe := lt_of_block (blk_keep Z5.out hSw); have hSp := HD.out _ hSu; have hSq := Nat.lt_of_lt_of_le hlt2 hSu.size
        go_simp
        try with_reducible rfl
      try simp only [Act.put, List.getElem_toArray, List.getElem_cons_succ, List.getElem_cons_zero, List.setIfInBounds_toArray, List.set_cons_zero, List.set_cons_succ]
      refine Ra.W 2 ?_ ?_ hHeld ?_
      rotate_left
      · intro wq hSw
        go_simp
        try with_reducible rfl
      try simp only [Act.put, List.getElem_toArray, List.getElem_cons_succ, List.getElem_cons_zero, List.setIfInBounds_toArray, List.set_cons_zero, List.set_cons_succ]
      refine Ra.W 3 ?_ ?_ hHeld ?_
      rotate_left
      · intro wq hSw
        go_simp
        try with_reducible rfl
      try simp only [Act.put, List.getElem_toArray, List.getElem_cons_succ, List.getElem_cons_zero, List.setIfInBounds_toArray, List.set_cons_zero, List.set_cons_succ]
      refine Ra.W 4 ?_ ?_ hHeld ?_
      rotate_left
      · intro wq hSw
        go_simp
        try with_reducible rfl
      try simp only [Act.put, List.getElem_toArray, List.getElem_cons_succ, List.getElem_cons_zero, List.setIfInBounds_toArray, List.set_cons_zero, List.set_cons_succ]
      refine Ra.W 5 ?_ ?_ hHeld ?_
      rotate_left
      · intro wq hSw
        have hSu := below_base B5.out B5.out.size hSw; have hSc := blk_cell (blk_keep HB.out hSu); have hSl := lt_of_block (blk_keep HB.out hSu); have hSd := blk_cell (blk_keep Z5.out hSw); have hSe := lt_of_block (blk_keep Z5.out hSw); have hSp := HD.out _ hSu; have hSq := Nat.lt_of_lt_of_le hlt2 hSu.size
        go_simp
        try with_reducible rfl
      try simp only [Act.put, List.getElem_toArray, List.getElem_cons_succ, List.getElem_cons_zero, List.setIfInBounds_toArray, List.set_cons_zero, List.set_cons_succ]
      refine Ra.W 6 ?_ ?_ hHeld ?_
      rotate_left
      · intro wq hSw
        have hSu := below_base B5.out B5.out.size hSw; have hSc := blk_cell (blk_keep HB.out hSu); have hSl := lt_of_block (blk_keep HB.out hSu); have hSd := blk_cell (blk_keep Z5.out hSw); have hSe := lt_of_block (blk_keep Z5.out hSw); have hSp := HD.out _ hSu; have hSq := Nat.lt_of_lt_of_le hlt2 hSu.size
        go_simp
        try rw [if_neg (by omega)]
        try rw [if_pos (by omega)]
        try with_reducible rfl
      try simp only [Act.put, List.getElem_toArray, List.getElem_cons_succ, List.getElem_cons_zero, List.setIfInBounds_toArray, List.set_cons_zero, List.set_cons_succ]
      refine Ra.W 7 ?_ ?_ hHeld ?_
      rotate_left
      · intro wq hSw
        go_simp
        try with_reducible rfl
      try simp only [Act.put, List.getElem_toArray, List.getElem_cons_succ, List.getElem_cons_zero, List.setIfInBounds_toArray, List.set_cons_zero, List.set_cons_succ]
      refine Ra.W 8 ?_ ?_ hHeld ?_
      rotate_left
      · intro wq hSw
        have hSu := below_base B5.out B5.out.size hSw; have hSc := blk_cell (blk_keep HB.out hSu); have hSl := lt_of_block (blk_keep HB.out hSu); have hSd := blk_cell (blk_keep Z5.out hSw); have hSe := lt_of_block (blk_keep Z5.out hSw); have hSp := HD.out _ hSu; have hSq := Nat.lt_of_lt_of_le hlt2 hSu.size
        go_simp
        try with_reducible rfl
      try simp only [Act.put, List.getElem_toArray, List.getElem_cons_succ, List.getElem_cons_zero, List.setIfInBounds_toArray, List.set_cons_zero, List.set_cons_succ]
      refine wpAnyH_ready (rs := [9]) (by kernel_rfl) (by simp) ?_
      refine AllReadyH.cons rfl (fun K hK => ?_) AllReadyH.nil
      rw [if_pos (by kernel_rfl)]
      go_simp
      (with_reducible refine (HBits.out _).mono ?_)
      rintro e w6 ⟨rfl, hb6⟩
      go_simp
      refine hK.out _ _ (below_tr hHeld hb6) (fun hHeld2 => ?_)
      clear hK K
      try clear hHeld
      have hHeld := hHeld2
      try clear hHeld2
      refine Ra.W 10 ?_ ?_ hHeld ?_
      rotate_left
      · intro wq hSw
        go_simp
        try with_reducible rfl
      try simp only [Act.put, List.getElem_toArray, List.getElem_cons_succ, List.getElem_cons_zero, List.setIfInBounds_toArray, List.set_cons_zero, List.set_cons_succ]
      refine wpAnyH_done (by kernel_rfl) ?_ _
      have B7 := Lib.hid (below_base B5.out B5.out.size hHeld)
      have R7 := Lib.hid (R5.out.below hHeld)
      have K7 := Lib.hid (own_below K5.out hHeld)
      have F7 := Lib.hid (F5.out.below hHeld)
      have Z7 := Lib.hid (blk_keep Z5.out hHeld)
      clear hHeld hb6
      have cz := blk_cell Z7.out
      have lz := lt_of_block Z7.out
      rcases Hx5.out with hneg | rfl
      · have dneg : decide (0 ≤ x5) = false := by simp; omega
        go_wp2_with fail
        with_reducible refine (HCon.out _ K7.out).mono ?_
        rintro e w8 ⟨rfl, rfl⟩
        have k8 := K7.out.alloc (.cells #[.string U1] 9)
        go_wp2_with (at_builtin; refine wpList_append_lies _ rfl (.tmp 49) (.tmp 52) _ rfl w2.heap.size 9 i0 (.string ⟨#[]⟩) 1 16 Tryz.underlying22 hif hz0 hz1 hz2 rfl (by decide) (.slice A6 i c6) _ _ rfl k8 ⟨w8.heap.size, 0, none⟩ 1 1 [.string U1] rfl rfl (cells_one _ _ _) (by simp [Value.oneCell']) (by omega) (by unfold maxLen; omega) (by omega) (by have := F7.out.size; simp; omega) _ rfl ?_; intro g9 c9 w9 ho9 hg9 hat9 hl9)
        have K9 := (Keep.of_below (S := fun q => (Value.slice A6 i c6).ownBlock = some q) (below_al (Below.refl _ w8) (.cells #[.string U1] 9))).trans (Keep.grown (S := fun q => (Value.slice A6 i c6).ownBlock = some q) hg9 (fun j h => h))
        have R9 := Lib.hid (R7.out.keep K9 (fun e => by have := Hkb.out _ e; omega) (fun e => by have := Hkb.out _ e; omega))
        have Z9 := Lib.hid (K9.blk Z7.out (fun e => by have := Hkb.out _ e; omega))
        have F9 := Lib.hid (F7.out.trans' K9 (fun q hq => .inr (Hkb.out q hq).2))
        have B9 := Lib.hid (below_keep B7.out B7.out.size K9 (fun q hq => by have := Hkb.out q hq; have := B2.out.size; omega))
        have O9 := Lib.hid ho9
        clear k8 K9 ho9 hg9 hat9 hl9 R7 Z7 F7 B7 K7 cz lz
        go_wp2_with fail
        refine wp_region_held_drew (S := (Bz w9)) (by kernel_rfl) (below_dr (Below.refl _ _)) (fun hHeld => ?_)
        refine Ra.W 0 ?_ ?_ hHeld ?_
        rotate_left
        · intro wq hSw
          go_simp
          try with_reducible rfl
        try simp only [Act.put, List.getElem_toArray, List.getElem_cons_succ, List.getElem_cons_zero, List.setIfInBounds_toArray, List.set_cons_zero, List.set_cons_succ]
        refine Ra.W 1 ?_ ?_ hHeld ?_
        rotate_left
        · intro wq hSw
          go_simp
          try with_reducible rfl
        try simp only [Act.put, List.getElem_toArray, List.getElem_cons_succ, List.getElem_cons_zero, List.setIfInBounds_toArray, List.set_cons_zero, List.set_cons_succ]
        refine Ra.W 2 ?_ ?_ hHeld ?_
        rotate_left
        · intro wq hSw
          go_simp
          try with_reducible rfl
        try simp only [Act.put, List.getElem_toArray, List.getElem_cons_succ, List.getElem_cons_zero, List.setIfInBounds_toArray, List.set_cons_zero, List.set_cons_succ]
        refine Ra.W 3 ?_ ?_ hHeld ?_
        rotate_left
        · intro wq hSw
          have hSu := below_base B9.out B9.out.size hSw; have hSc := blk_cell (blk_keep HB.out hSu); have hSl := lt_of_block (blk_keep HB.out hSu); have hSd := blk_cell (blk_keep Z9.out hSw); have hSe := lt_of_block (blk_keep Z9.out hSw)
          go_simp
          try with_reducible rfl
        try simp only [Act.put, List.getElem_toArray, List.getElem_cons_succ, List.getElem_cons_zero, List.setIfInBounds_toArray, List.set_cons_zero, List.set_cons_succ]
        refine Ra.W 4 ?_ ?_ hHeld ?_
        rotate_left
        · intro wq hSw
          have hSu := below_base B9.out B9.out.size hSw; have hSc := blk_cell (blk_keep HB.out hSu); have hSl := lt_of_block (blk_keep HB.out hSu); have hSd := blk_cell (blk_keep Z9.out hSw); have hSe := lt_of_block (blk_keep Z9.out hSw)
          go_simp
          try with_reducible rfl
        try simp only [Act.put, List.getElem_toArray, List.getElem_cons_succ, List.getElem_cons_zero, List.setIfInBounds_toArray, List.set_cons_zero, List.set_cons_succ]
        refine wpAnyH_ready (rs := [5]) (by kernel_rfl) (by simp) ?_
        refine AllReadyH.cons rfl (fun K hK => ?_) AllReadyH.nil
        rw [if_pos (by kernel_rfl)]
        go_simp
        (with_reducible refine (HBl.out _ (below_dr B9.out)).mono ?_)
        rintro e wa ⟨⟨Bx, cx, rfl, hox⟩, _, kx⟩
        have OX := Lib.hid hox
        clear hox
        go_simp
        refine hK.out _ _ (below_tr hHeld kx.bel) (fun hHeld2 => ?_)
        clear hK K
        try clear hHeld
        have hHeld := hHeld2
        try clear hHeld2
        refine Ra.W 6 ?_ ?_ hHeld ?_
        rotate_left
        · intro wq hSw
          go_simp
          try with_reducible rfl
        try simp only [Act.put, List.getElem_toArray, List.getElem_cons_succ, List.getElem_cons_zero, List.setIfInBounds_toArray, List.set_cons_zero, List.set_cons_succ]
        refine Ra.W 7 ?_ ?_ hHeld ?_
        rotate_left
        · intro wq hSw
          go_simp
          try with_reducible rfl
        try simp only [Act.put, List.getElem_toArray, List.getElem_cons_succ, List.getElem_cons_zero, List.setIfInBounds_toArray, List.set_cons_zero, List.set_cons_succ]
        refine Ra.W 8 ?_ ?_ hHeld ?_
        rotate_left
        · intro wq hSw
          go_simp
          try with_reducible rfl
        try simp only [Act.put, List.getElem_toArray, List.getElem_cons_succ, List.getElem_cons_zero, List.setIfInBounds_toArray, List.set_cons_zero, List.set_cons_succ]
        refine Ra.W 9 ?_ ?_ hHeld ?_
        rotate_left
        · intro wq hSw
          go_simp
          try with_reducible rfl
        try simp only [Act.put, List.getElem_toArray, List.getElem_cons_succ, List.getElem_cons_zero, List.setIfInBounds_toArray, List.set_cons_zero, List.set_cons_succ]
        refine Ra.W 10 ?_ ?_ hHeld ?_
        rotate_left
        · intro wq hSw
          go_simp
          try with_reducible rfl
        try simp only [Act.put, List.getElem_toArray, List.getElem_cons_succ, List.getElem_cons_zero, List.setIfInBounds_toArray, List.set_cons_zero, List.set_cons_succ]
        refine wpAnyH_done (by kernel_rfl) ?_ _
        have Ba := Lib.hid (below_base B9.out B9.out.size hHeld)
        have Ra := Lib.hid (R9.out.below hHeld)
        have Fa := Lib.hid (F9.out.below hHeld)
        have Oa := Lib.hid (own_below O9.out hHeld)
        have sw9 := hHeld.size
        clear hHeld kx
        have hXl := nodup_64 (List.nodup_append.1 HPRE.out.1).2.1 (fun m hm => HPRE.out.2 m (List.mem_append_right _ hm))
        have hIx := (ints_own' (natV_ints XL ▸ OX.out) (by omega)).1
        have haddx := radd_ok wa rb mk VI XL Bx cx Ra.out hIx HPRE.out.1 HPRE.out.2 (fun b' off e => by
          have h1 := own_base OX.out b' (by rw [e]; rfl)
          have h2 := F9.out.size
          simp at h1
          omega)
        clear hIx
        go_wp2_with fail
        with_reducible refine haddx.mono ?_
        rintro e wb ⟨rfl, hrx, hkx⟩
        have Rb : Hid (Rch wb rb mk (V ++ NU ++ (cs.take (i + 1)).flatMap pl)) := Lib.hid (by rw [HVST.out]; exact hrx)
        have Fb := Lib.hid (Fa.out.trans hkx)
        have Ob : Hid (wb.ownsRow w2.heap.size 9 1 (.slice (some ⟨g9, 0, none⟩) (i + 1) c9) (i + 1) (keyV ((cs.take (i + 1)).map Cel.key))) := Lib.hid (by
          rw [HKST.out]
          exact hkx.row Oa.out (fun g hg e => by have := own_base Oa.out g hg; omega))
        clear hrx hkx haddx Ra Fa Oa Ba OX R9 Z9 F9 B9 O9
        go_wp2_with fail
        go_roundg (gk - 1)
        case measure => omega
        case rel => exact ⟨i + 1, by omega, by simp, by omega, by rw [if_neg (by omega)], Ob, Rb, Fb⟩
      · have dpos : decide (0 ≤ (own : Int)) = true := by simp
        go_wp2_with fail
        with_reducible refine (HCon.out _ K7.out).mono ?_
        rintro e w8 ⟨rfl, rfl⟩
        have k8 := K7.out.alloc (.cells #[.string U1] 9)
        go_wp2_with (at_builtin; refine wpList_append_lies _ rfl (.tmp 49) (.tmp 52) _ rfl w2.heap.size 9 i0 (.string ⟨#[]⟩) 1 16 Tryz.underlying22 hif hz0 hz1 hz2 rfl (by decide) (.slice A6 i c6) _ _ rfl k8 ⟨w8.heap.size, 0, none⟩ 1 1 [.string U1] rfl rfl (cells_one _ _ _) (by simp [Value.oneCell']) (by omega) (by unfold maxLen; omega) (by omega) (by have := F7.out.size; simp; omega) _ rfl ?_; intro g9 c9 w9 ho9 hg9 hat9 hl9)
        have K9 := (Keep.of_below (S := fun q => (Value.slice A6 i c6).ownBlock = some q) (below_al (Below.refl _ w8) (.cells #[.string U1] 9))).trans (Keep.grown (S := fun q => (Value.slice A6 i c6).ownBlock = some q) hg9 (fun j h => h))
        have R9 := Lib.hid (R7.out.keep K9 (fun e => by have := Hkb.out _ e; omega) (fun e => by have := Hkb.out _ e; omega))
        have Z9 := Lib.hid (K9.blk Z7.out (fun e => by have := Hkb.out _ e; omega))
        have F9 := Lib.hid (F7.out.trans' K9 (fun q hq => .inr (Hkb.out q hq).2))
        have B9 := Lib.hid (below_keep B7.out B7.out.size K9 (fun q hq => by have := Hkb.out q hq; have := B2.out.size; omega))
        have O9 := Lib.hid ho9
        clear k8 K9 ho9 hg9 hat9 hl9 R7 Z7 F7 B7 K7 cz lz
        go_wp2_with fail
        refine wp_region_held_drew (S := (Bz w9)) (by kernel_rfl) (below_dr (Below.refl _ _)) (fun hHeld => ?_)
        refine Ra.W 0 ?_ ?_ hHeld ?_
        rotate_left
        · intro wq hSw
          go_simp
          try with_reducible rfl
        try simp only [Act.put, List.getElem_toArray, List.getElem_cons_succ, List.getElem_cons_zero, List.setIfInBounds_toArray, List.set_cons_zero, List.set_cons_succ]
        refine Ra.W 1 ?_ ?_ hHeld ?_
        rotate_left
        · intro wq hSw
          go_simp
          try with_reducible rfl
        try simp only [Act.put, List.getElem_toArray, List.getElem_cons_succ, List.getElem_cons_zero, List.setIfInBounds_toArray, List.set_cons_zero, List.set_cons_succ]
        refine Ra.W 2 ?_ ?_ hHeld ?_
        rotate_left
        · intro wq hSw
          go_simp
          try with_reducible rfl
        try simp only [Act.put, List.getElem_toArray, List.getElem_cons_succ, List.getElem_cons_zero, List.setIfInBounds_toArray, List.set_cons_zero, List.set_cons_succ]
        refine Ra.W 3 ?_ ?_ hHeld ?_
        rotate_left
        · intro wq hSw
          have hSu := below_base B9.out B9.out.size hSw; have hSc := blk_cell (blk_keep HB.out hSu); have hSl := lt_of_block (blk_keep HB.out hSu); have hSd := blk_cell (blk_keep Z9.out hSw); have hSe := lt_of_block (blk_keep Z9.out hSw)
          go_simp
          try with_reducible rfl
        try simp only [Act.put, List.getElem_toArray, List.getElem_cons_succ, List.getElem_cons_zero, List.setIfInBounds_toArray, List.set_cons_zero, List.set_cons_succ]
        refine Ra.W 4 ?_ ?_ hHeld ?_
        rotate_left
        · intro wq hSw
          have hSu := below_base B9.out B9.out.size hSw; have hSc := blk_cell (blk_keep HB.out hSu); have hSl := lt_of_block (blk_keep HB.out hSu); have hSd := blk_cell (blk_keep Z9.out hSw); have hSe := lt_of_block (blk_keep Z9.out hSw)
          go_simp
          try with_reducible rfl
        try simp only [Act.put, List.getElem_toArray, List.getElem_cons_succ, List.getElem_cons_zero, List.setIfInBounds_toArray, List.set_cons_zero, List.set_cons_succ]
        refine wpAnyH_ready (rs := [5]) (by kernel_rfl) (by simp) ?_
        refine AllReadyH.cons rfl (fun K hK => ?_) AllReadyH.nil
        rw [if_pos (by kernel_rfl)]
        go_simp
        (with_reducible refine (HBl.out _ (below_dr B9.out)).mono ?_)
        rintro e wa ⟨⟨Bx, cx, rfl, hox⟩, _, kx⟩
        have OX := Lib.hid hox
        clear hox
        go_simp
        refine hK.out _ _ (below_tr hHeld kx.bel) (fun hHeld2 => ?_)
        clear hK K
        try clear hHeld
        have hHeld := hHeld2
        try clear hHeld2
        refine Ra.W 6 ?_ ?_ hHeld ?_
        rotate_left
        · intro wq hSw
          go_simp
          try with_reducible rfl
        try simp only [Act.put, List.getElem_toArray, List.getElem_cons_succ, List.getElem_cons_zero, List.setIfInBounds_toArray, List.set_cons_zero, List.set_cons_succ]
        refine Ra.W 7 ?_ ?_ hHeld ?_
        rotate_left
        · intro wq hSw
          go_simp
          try with_reducible rfl
        try simp only [Act.put, List.getElem_toArray, List.getElem_cons_succ, List.getElem_cons_zero, List.setIfInBounds_toArray, List.set_cons_zero, List.set_cons_succ]
        refine Ra.W 8 ?_ ?_ hHeld ?_
        rotate_left
        · intro wq hSw
          go_simp
          try with_reducible rfl
        try simp only [Act.put, List.getElem_toArray, List.getElem_cons_succ, List.getElem_cons_zero, List.setIfInBounds_toArray, List.set_cons_zero, List.set_cons_succ]
        refine Ra.W 9 ?_ ?_ hHeld ?_
        rotate_left
        · intro wq hSw
          go_simp
          try with_reducible rfl
        try simp only [Act.put, List.getElem_toArray, List.getElem_cons_succ, List.getElem_cons_zero, List.setIfInBounds_toArray, List.set_cons_zero, List.set_cons_succ]
        refine Ra.W 10 ?_ ?_ hHeld ?_
        rotate_left
        · intro wq hSw
          go_simp
          try with_reducible rfl
        try simp only [Act.put, List.getElem_toArray, List.getElem_cons_succ, List.getElem_cons_zero, List.setIfInBounds_toArray, List.set_cons_zero, List.set_cons_succ]
        refine wpAnyH_done (by kernel_rfl) ?_ _
        have Ba := Lib.hid (below_base B9.out B9.out.size hHeld)
        have Ra := Lib.hid (R9.out.below hHeld)
        have Fa := Lib.hid (F9.out.below hHeld)
        have Oa := Lib.hid (own_below O9.out hHeld)
        have sw9 := hHeld.size
        clear hHeld kx
        have hXl := nodup_64 (List.nodup_append.1 HPRE.out.1).2.1 (fun m hm => HPRE.out.2 m (List.mem_append_right _ hm))
        have hIx := (ints_own' (natV_ints XL ▸ OX.out) (by omega)).1
        have haddx := radd_ok wa rb mk VI XL Bx cx Ra.out hIx HPRE.out.1 HPRE.out.2 (fun b' off e => by
          have h1 := own_base OX.out b' (by rw [e]; rfl)
          have h2 := F9.out.size
          simp at h1
          omega)
        clear hIx
        go_wp2_with fail
        with_reducible refine haddx.mono ?_
        rintro e wb ⟨rfl, hrx, hkx⟩
        have Rb : Hid (Rch wb rb mk (V ++ NU ++ (cs.take (i + 1)).flatMap pl)) := Lib.hid (by rw [HVST.out]; exact hrx)
        have Fb := Lib.hid (Fa.out.trans hkx)
        have Ob : Hid (wb.ownsRow w2.heap.size 9 1 (.slice (some ⟨g9, 0, none⟩) (i + 1) c9) (i + 1) (keyV ((cs.take (i + 1)).map Cel.key))) := Lib.hid (by
          rw [HKST.out]
          exact hkx.row Oa.out (fun g hg e => by have := own_base Oa.out g hg; omega))
        clear hrx hkx haddx Ra Fa Oa Ba OX R9 Z9 F9 B9 O9
        go_wp2_with fail
        go_roundg (gk - 1)
        case measure => omega
        case rel => exact ⟨i + 1, by omega, by simp, by omega, by rw [if_neg (by omega)], Ob, Rb, Fb⟩
    · obtain rfl : i = cs.length := by omega
      have RF := R1.out
      rw [List.take_length, List.append_assoc, ← hvis.out] at RF
      have HF := Lib.hid RF
      have BF := Lib.hid (below_keep B2.out B2.out.size F1.out (fun q hq => by omega))
      clear RF R1 F1 K1
      generalize (if cs.length = 0 then (-1 : Int) else (own : Int)) = y5
      go_wp2_with fail
      go_ret
      exact ⟨rfl, HF.out, BF.out⟩
end Go.Proofs.YtijhamllnnilbaaGreatDoor.Ha
