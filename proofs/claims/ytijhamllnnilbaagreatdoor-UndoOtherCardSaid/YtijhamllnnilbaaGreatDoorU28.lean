/- Lemmas of the claim, in their order:
- The contract of hash's leads.
-/
import Derived.Test.YtijhamllnnilbaaGreatDoorU26
set_option linter.unusedVariables false
set_option linter.unusedSimpArgs false
namespace Go.Proofs.YtijhamllnnilbaaGreatDoor.Ha
open Go.RowKit Go.Proofs.YtijhamllnnilbaaGreatDoor.Mem Go.Proofs.YtijhamllnnilbaaGreatDoor.Pg Go.Proofs.YtijhamllnnilbaaGreatDoor.Kp Go.Proofs.YtijhamllnnilbaaGreatDoor.Sp Go.Proofs.YtijhamllnnilbaaGreatDoor.Gr
set_option linter.unusedSimpArgs false
set_option linter.unusedVariables false
theorem cellsP_getLe {ps : List (Nat × List Cel)} (hf : ∀ p, p ∈ ps → Fits p.2) (hl : ps.length ≤ 64) : (cellsP ps).length ≤ 64 * 59 := by
  have := cellsP_le ps (fun p hp => (hf p hp).len)
  omega
/-- The directory's entry of a key. -/
theorem Tb.at_key {n D : Nat} {pg : Nat → Pag} {t : Tri} (T : Tb n pg D t) (h64 : n ≤ 64) (key : List UInt8) (W : World) :
    Calls Tryz.prog 133 #[.agg #[.int .i64 1, .int .i64 (D : Int), .int .i64 0, .string (Dr.bdy (entsF D t))], .int .i64 (bitsF key D)] W fun e w' => e = .returned (.tuple #[.int .i64 ((t.at' (sumF key)).n : Int), .bool true]) ∧ Below W.heap.size W w' := by
  have hb2 : bitsF key D < 2 ^ D := Nat.mod_lt _ (Nat.two_pow_pos D)
  have hat := Dr.good_at (T.good h64) (bitsF key D) (by rw [entsF_len]; exact hb2) W
  have hent : (entsF D t)[bitsF key D]'(by rw [entsF_len]; exact hb2) = ((t.at' (sumF key)).n : Int) := by
    have h1 := entsF_get D t (bitsF key D) hb2
    rw [List.getElem?_eq_getElem (by rw [entsF_len]; exact hb2)] at h1
    injection h1 with h1
    rw [h1]
    unfold bitsF
    rw [(t.at_mod (sumF key) D (Nat.le_trans (t.dep_le _) T.hi)).1]
  have hgd : (entsF D t).getD (bitsF key D) 0 = ((t.at' (sumF key)).n : Int) := by
    rw [List.getD_eq_getElem?_getD, List.getElem?_eq_getElem (by rw [entsF_len]; exact hb2), Option.getD_some, hent]
  rw [hgd] at hat
  exact hat
set_option maxRecDepth 100000 in
set_option maxHeartbeats 4000000 in
theorem leads_ok (w : World) (gb n D tb cb C i : Nat) (pg : Nat → Pag) (t : Tri) (T : Tb n pg D t) (h64 : n ≤ 64) (htb : w.heap[tb]? = some (tbO gb D (Dr.bdy (entsF D t)))) (hc : Ch C w cb gb ((t.at' i).pags (t.dep i))) :
    Calls Tryz.prog 69 #[.pointer (some ⟨tb, 0, none⟩), .pointer (some ⟨cb, 0, none⟩)] w fun e w' => e = .returned (.bool true) ∧ Below w.heap.size w w' := by
  have hm := t.at_mem i
  have hfits := T.fits _ hm
  have hlen := (T.chn h64 i).len
  have hLl : ((t.at' i).pags (t.dep i)).length = (t.at' i).pgs.length := by unfold Lf.pags; exact pagsF_len ..
  have hpos : 0 < (t.at' i).pgs.length := Nat.succ_pos _
  have hcel := ccells_any w C cb gb _ (t.at' i).pgs hc (bkL_pags 3 _ (.inl rfl) _ hfits) (by omega) (by omega)
  have htot := cellsP_getLe hfits hlen
  obtain ⟨nb, pb, cn, cp, hf⟩ := hc.form (by omega)
  have hnum : w.cell? ⟨nb, 0, none⟩ = some (.int .i64 ((t.at' i).n : Int)) := hf.num 0 _ _ rfl
  have hnl := hf.nl
  have h0 : (0 : Int) < (((t.at' i).pags (t.dep i)).length : Int) := by omega
  have hstep : ∀ x, x ∈ cellsP (t.at' i).pgs → (∀ W, Calls Tryz.prog 134 #[.string (str x.key), .int .i64 (D : Int)] W fun e w' => e = .returned (.int .i64 (bitsF x.key D)) ∧ Below W.heap.size W w') ∧
      (∀ W, Calls Tryz.prog 133 #[.agg #[.int .i64 1, .int .i64 (D : Int), .int .i64 0, .string (Dr.bdy (entsF D t))], .int .i64 (bitsF x.key D)] W fun e w' => e = .returned (.tuple #[.int .i64 ((t.at' i).n : Int), .bool true]) ∧ Below W.heap.size W w') := fun x hx => by
    obtain ⟨p, hp, hxp⟩ := List.mem_flatMap.1 hx
    have hko := ((hfits p hp).ok x hxp).key.2
    refine ⟨fun W => bits_any x.key D (by have := T.d5; omega) W (by omega), fun W => ?_⟩
    have h1 := T.at_key h64 x.key W
    rw [T.lead _ hm x hx] at h1
    exact h1
  obtain ⟨S, hS⟩ : ∃ S, S = Dr.bdy (entsF D t) := ⟨_, rfl⟩
  rw [← hS] at hstep htb
  generalize hbn : ((t.at' i).n : Int) = bn at *
  generalize hLL : ((t.at' i).pags (t.dep i)).length = LL at *
  generalize hcs : cellsP (t.at' i).pgs = cs at *
  have HS := Lib.hid hstep
  have HT := Lib.hid htb
  have HF := Lib.hid hf
  have HN := Lib.hid hnum
  clear hS hbn hcs hstep htb hf hnum hc T hm hfits hlen hpos
  go_enter Tryz.func69, Tryz.ntmps69
  go_wp2_with fail
  with_reducible refine hcel.mono ?_
  rintro e w1 ⟨A, cap, rfl, hown, hb1⟩
  have OW := Lib.hid hown
  have BB := Lib.hid hb1
  have B0 : Hid (Below w1.heap.size w1 w1) := Lib.hid (Below.refl _ _)
  clear hown hb1 hcel
  go_wp2_with fail
  go_loopw [12] (fun v wr => ∃ j : Nat, v = .int .i64 (j : Nat) ∧ j ≤ cs.length ∧ Hid (Below w1.heap.size w1 wr)) (fun v _ => cs.length - (intOf v).toNat)
  case atStart => exact ⟨0, rfl, Nat.zero_le _, B0⟩
  case round =>
    clear B0
    obtain ⟨j, rfl, hj, B1⟩ := hrel
    by_cases hlt : j < cs.length
    · obtain ⟨g, rfl⟩ : ∃ g, A = some ⟨g, 0, none⟩ := by
        rcases OW.out.2 with ⟨_, h0⟩ | ⟨g, cap, cur, h0, _⟩
        · omega
        · injection h0 with h0; exact ⟨g, h0⟩
      have hx : cs[j] ∈ cs := List.getElem_mem hlt
      have hbits := (HS.out _ hx).1
      have hat := (HS.out _ hx).2
      have own := own_below OW.out B1.out
      have pc := fun r (hr : r < 4) (u : Value) (hu : (cs[j].cells)[r]? = some u) => own_at own (j * 4 + r) u ((flatC_at hlt r hr).trans hu)
      have c0 := pc 0 (by omega) _ rfl
      have c1 := pc 1 (by omega) _ rfl
      have c2 := pc 2 (by omega) _ rfl
      have c3 := pc 3 (by omega) _ rfl
      rw [Nat.add_zero] at c0
      have lg := own_lt own g rfl
      obtain ⟨U1, hU1⟩ : ∃ U, U = str cs[j].key := ⟨_, rfl⟩
      obtain ⟨U2, hU2⟩ : ∃ U, U = str cs[j].val := ⟨_, rfl⟩
      obtain ⟨xb, hxb⟩ : ∃ b : Int, b = cs[j].blob := ⟨_, rfl⟩
      obtain ⟨xz, hxz⟩ : ∃ b : Int, b = cs[j].size := ⟨_, rfl⟩
      rw [← hU1] at hbits c0
      rw [← hU2] at c1
      rw [← hxb] at c2
      rw [← hxz] at c3
      generalize bitsF cs[j].key D = bk at hbits hat
      have hjI : (j : Int) < (cs.length : Int) := by omega
      have i1 : IntKind.i64.wrap ((j : Int) + 1) = (j : Int) + 1 := IntWalk.i64_in _ (by omega)
      have BW := Lib.hid (below_base BB.out BB.out.size B1.out)
      have B5 := Lib.hid (below_al BW.out (celO U1 U2 xb xz))
      have B6 := Lib.hid (below_al B1.out (celO U1 U2 xb xz))
      have PX := Lib.hid (heap_alloc_new wr (celO U1 U2 xb xz))
      have HT5 := Lib.hid (blk_keep HT.out B5.out)
      clear hU1 hU2 hxb hxz pc own hx
      go_wp2_with fail
      refine wp_region_held_drew (S := (Bz (wr.alloc (celO U1 U2 xb xz)))) (by kernel_rfl) (below_dr (Below.refl _ _)) (fun hHeld => ?_)
      refine Ra.W 0 ?_ ?_ hHeld ?_
      rotate_left
      · intro wq hSw
        go_simp
        try with_reducible rfl
      try simp only [Act.put, List.getElem_toArray, List.getElem_cons_succ, List.getElem_cons_zero, List.setIfInBounds_toArray, List.set_cons_zero, List.set_cons_succ]
      refine Ra.W 1 ?_ ?_ hHeld ?_
      rotate_left
      · intro wq hSw
        go_simp
        try with_reducible rfl
      try simp only [Act.put, List.getElem_toArray, List.getElem_cons_succ, List.getElem_cons_zero, List.setIfInBounds_toArray, List.set_cons_zero, List.set_cons_succ]
      refine Ra.W 2 ?_ ?_ hHeld ?_
      rotate_left
      · intro wq hSw
        go_simp
        try with_reducible rfl
      try simp only [Act.put, List.getElem_toArray, List.getElem_cons_succ, List.getElem_cons_zero, List.setIfInBounds_toArray, List.set_cons_zero, List.set_cons_succ]
      refine Ra.W 3 ?_ ?_ hHeld ?_
      rotate_left
      · intro wq hSw
        have hSc := blk_cell (blk_keep HT5.out hSw); have hSl := lt_of_block (blk_keep HT5.out hSw); have hSd := blk_cell (blk_keep PX.out hSw); have hSe := lt_of_block (blk_keep PX.out hSw)
        go_simp
        try with_reducible rfl
      try simp only [Act.put, List.getElem_toArray, List.getElem_cons_succ, List.getElem_cons_zero, List.setIfInBounds_toArray, List.set_cons_zero, List.set_cons_succ]
      refine Ra.W 4 ?_ ?_ hHeld ?_
      rotate_left
      · intro wq hSw
        go_simp
        try with_reducible rfl
      try simp only [Act.put, List.getElem_toArray, List.getElem_cons_succ, List.getElem_cons_zero, List.setIfInBounds_toArray, List.set_cons_zero, List.set_cons_succ]
      refine Ra.W 5 ?_ ?_ hHeld ?_
      rotate_left
      · intro wq hSw
        have hSc := blk_cell (blk_keep HT5.out hSw); have hSl := lt_of_block (blk_keep HT5.out hSw); have hSd := blk_cell (blk_keep PX.out hSw); have hSe := lt_of_block (blk_keep PX.out hSw)
        go_simp
        try with_reducible rfl
      try simp only [Act.put, List.getElem_toArray, List.getElem_cons_succ, List.getElem_cons_zero, List.setIfInBounds_toArray, List.set_cons_zero, List.set_cons_succ]
      refine Ra.W 6 ?_ ?_ hHeld ?_
      rotate_left
      · intro wq hSw
        go_simp
        try with_reducible rfl
      try simp only [Act.put, List.getElem_toArray, List.getElem_cons_succ, List.getElem_cons_zero, List.setIfInBounds_toArray, List.set_cons_zero, List.set_cons_succ]
      refine Ra.W 7 ?_ ?_ hHeld ?_
      rotate_left
      · intro wq hSw
        go_simp
        try with_reducible rfl
      try simp only [Act.put, List.getElem_toArray, List.getElem_cons_succ, List.getElem_cons_zero, List.setIfInBounds_toArray, List.set_cons_zero, List.set_cons_succ]
      refine Ra.W 8 ?_ ?_ hHeld ?_
      rotate_left
      · intro wq hSw
        go_simp
        try with_reducible rfl
      try simp only [Act.put, List.getElem_toArray, List.getElem_cons_succ, List.getElem_cons_zero, List.setIfInBounds_toArray, List.set_cons_zero, List.set_cons_succ]
      refine Ra.W 9 ?_ ?_ hHeld ?_
      rotate_left
      · intro wq hSw
        go_simp
        try with_reducible rfl
      try simp only [Act.put, List.getElem_toArray, List.getElem_cons_succ, List.getElem_cons_zero, List.setIfInBounds_toArray, List.set_cons_zero, List.set_cons_succ]
      refine Ra.W 10 ?_ ?_ hHeld ?_
      rotate_left
      · intro wq hSw
        have hSc := blk_cell (blk_keep HT5.out hSw); have hSl := lt_of_block (blk_keep HT5.out hSw); have hSd := blk_cell (blk_keep PX.out hSw); have hSe := lt_of_block (blk_keep PX.out hSw)
        go_simp
        try with_reducible rfl
      try simp only [Act.put, List.getElem_toArray, List.getElem_cons_succ, List.getElem_cons_zero, List.setIfInBounds_toArray, List.set_cons_zero, List.set_cons_succ]
      refine wpAnyH_ready (rs := [11]) (by kernel_rfl) (by simp) ?_
      refine AllReadyH.cons rfl (fun K hK => ?_) AllReadyH.nil
      rw [if_pos (by kernel_rfl)]
      go_simp
      (with_reducible refine (hbits _).mono ?_)
      rintro e w6 ⟨rfl, hb6⟩
      go_simp
      refine hK.out _ _ (below_tr hHeld hb6) (fun hHeld2 => ?_)
      clear hK K
      try clear hHeld
      have hHeld := hHeld2
      try clear hHeld2
      refine wpAnyH_ready (rs := [12]) (by kernel_rfl) (by simp) ?_
      refine AllReadyH.cons rfl (fun K hK => ?_) AllReadyH.nil
      rw [if_pos (by kernel_rfl)]
      go_simp
      (with_reducible refine (hat _).mono ?_)
      rintro e w7 ⟨rfl, hb7⟩
      go_simp
      refine hK.out _ _ (below_tr hHeld hb7) (fun hHeld2 => ?_)
      clear hK K
      try clear hHeld
      have hHeld := hHeld2
      try clear hHeld2
      refine Ra.W 13 ?_ ?_ hHeld ?_
      rotate_left
      · intro wq hSw
        go_simp
        try with_reducible rfl
      try simp only [Act.put, List.getElem_toArray, List.getElem_cons_succ, List.getElem_cons_zero, List.setIfInBounds_toArray, List.set_cons_zero, List.set_cons_succ]
      refine Ra.W 14 ?_ ?_ hHeld ?_
      rotate_left
      · intro wq hSw
        go_simp
        try with_reducible rfl
      try simp only [Act.put, List.getElem_toArray, List.getElem_cons_succ, List.getElem_cons_zero, List.setIfInBounds_toArray, List.set_cons_zero, List.set_cons_succ]
      refine Ra.W 15 ?_ ?_ hHeld ?_
      rotate_left
      · intro wq hSw
        go_simp
        try with_reducible rfl
      try simp only [Act.put, List.getElem_toArray, List.getElem_cons_succ, List.getElem_cons_zero, List.setIfInBounds_toArray, List.set_cons_zero, List.set_cons_succ]
      refine Ra.W 16 ?_ ?_ hHeld ?_
      rotate_left
      · intro wq hSw
        go_simp
        try with_reducible rfl
      try simp only [Act.put, List.getElem_toArray, List.getElem_cons_succ, List.getElem_cons_zero, List.setIfInBounds_toArray, List.set_cons_zero, List.set_cons_succ]
      refine Ra.W 17 ?_ ?_ hHeld ?_
      rotate_left
      · intro wq hSw
        go_simp
        try with_reducible rfl
      try simp only [Act.put, List.getElem_toArray, List.getElem_cons_succ, List.getElem_cons_zero, List.setIfInBounds_toArray, List.set_cons_zero, List.set_cons_succ]
      refine wpAnyH_done (by kernel_rfl) ?_ _
      have B7 := Lib.hid (below_base B5.out B5.out.size hHeld)
      have B8 := Lib.hid (below_base B6.out B6.out.size hHeld)
      have f7 := HF.out.below B7.out
      have cc := blk_cell f7.blk
      have lc := lt_of_block f7.blk
      have cn0 := (B7.out.cell (p := ⟨nb, 0, none⟩) hnl).trans HN.out
      have ln := f7.nl
      clear hHeld f7 hbits hat c0 c1 c2 c3 hb6 hb7
      go_wp2_with fail
      refine ⟨⟨j + 1, by simp, by omega, B8⟩, ?_⟩
      clear i1
      simp [intOf]; omega
    · obtain rfl : j = cs.length := by omega
      have BF := Lib.hid (below_base BB.out BB.out.size B1.out)
      go_wp2_with fail
      go_ret
      exact ⟨rfl, BF.out⟩
end Go.Proofs.YtijhamllnnilbaaGreatDoor.Ha
