/- Lemmas of the claim, in their order:
- The contract of hash's entries.
-/
import Derived.Test.YtijhamllnnilbaaGreatDoorU33
set_option linter.unusedVariables false
set_option linter.unusedSimpArgs false
namespace Go.Proofs.YtijhamllnnilbaaGreatDoor.Ha
open Go.RowKit Go.Proofs.YtijhamllnnilbaaGreatDoor.Mem Go.Proofs.YtijhamllnnilbaaGreatDoor.Pg Go.Proofs.YtijhamllnnilbaaGreatDoor.Kp Go.Proofs.YtijhamllnnilbaaGreatDoor.Sp Go.Proofs.YtijhamllnnilbaaGreatDoor.Gr
set_option linter.unusedSimpArgs false
set_option linter.unusedVariables false
theorem and_i64 (a d : Nat) (ha : a < 4294967296) (hd : d ≤ 31) : bits .and .i64 (a : Int) ((2 ^ d - 1 : Nat) : Int) = ((a % 2 ^ d : Nat) : Int) := by
  have h1 : 2 ^ d ≤ 2 ^ 31 := Nat.pow_le_pow_right (by omega) hd
  have h2 : 2 ^ d - 1 < 4294967296 := by omega
  show IntKind.i64.wrap ((BitVec.ofInt 64 (a : Int) &&& BitVec.ofInt 64 ((2 ^ d - 1 : Nat) : Int)).toNat : Int) = _
  rw [BitVec.toNat_and, u64_nat a (by omega), u64_nat _ (by omega), Nat.and_two_pow_sub_one_eq_mod]
  have h3 : a % 2 ^ d ≤ a := Nat.mod_le _ _
  exact IntWalk.i64_in _ (by omega)
theorem and_shl (a d : Nat) (ha : a < 4294967296) (hd : d ≤ 31) : bits .and .i64 (a : Int) (wrap64 (wrap64 ((2 : Int) ^ d) - 1)) = ((a % 2 ^ d : Nat) : Int) := by
  have h1 := and_i64 a d ha hd
  have h2 : 2 ^ d ≤ 2 ^ 31 := Nat.pow_le_pow_right (by omega) hd
  have h3 : 1 ≤ 2 ^ d := Nat.one_le_two_pow
  have e : ((2 : Int) ^ d) = ((2 ^ d : Nat) : Int) := by simp
  rw [e]
  generalize 2 ^ d = P at *
  have e2 : (P : Int) - 1 = ((P - 1 : Nat) : Int) := by omega
  rw [IntWalk.wrap64_in (P : Int) (by omega), e2, IntWalk.wrap64_in ((P - 1 : Nat) : Int) (by omega)]
  exact h1
/-- What entries has kept of the entries below j. -/
def FB (t : Tri) : Nat → Int → Option Int
  | 0 => fun _ => none
  | j + 1 => updI (FB t j) ((t.at' j).n : Nat) ((j % 2 ^ t.dep j : Nat) : Int)
theorem FB_spec (t : Tri) : ∀ (j : Nat) (i y : Int), FB t j i = some y → ∃ k, k < j ∧ ((t.at' k).n : Int) = i ∧ y = ((k % 2 ^ t.dep k : Nat) : Int)
  | 0, i, y, h => by cases h
  | j + 1, i, y, h => by
    unfold FB updI at h
    by_cases e : i = ((t.at' j).n : Nat)
    · rw [if_pos e] at h
      injection h with h
      exact ⟨j, Nat.lt_succ_self _, e.symm, h.symm⟩
    · rw [if_neg e] at h
      obtain ⟨k, h1, h2⟩ := FB_spec t j i y h
      exact ⟨k, by omega, h2⟩
theorem FB_own {n D : Nat} {pg : Nat → Pag} {t : Tri} (T : Tb n pg D t) (j : Nat) : FB t j ((t.at' j).n : Nat) = none ∨ FB t j ((t.at' j).n : Nat) = some ((j % 2 ^ t.dep j : Nat) : Int) := by
  cases e : FB t j ((t.at' j).n : Nat) with
  | none => exact .inl rfl
  | some y =>
    obtain ⟨k, h1, h2, h3⟩ := FB_spec t j _ y e
    have h4 := T.inj k j (by omega)
    right
    rw [h3, h4.2.2, h4.2.1]
/-- The first page of a bucket. -/
theorem Tb.first {n D : Nat} {pg : Nat → Pag} {t : Tri} (T : Tb n pg D t) (i : Nat) : pg (t.at' i).n = ⟨3, (t.dep i : Nat), (nextF (t.at' i).ov : Nat), bodyF (t.at' i).cs⟩ :=
  T.shown i ((t.at' i).n, _) (List.mem_cons_self ..)
theorem Tb.at_own {n D : Nat} {pg : Nat → Pag} {t : Tri} (T : Tb n pg D t) (h64 : n ≤ 64) (j : Nat) (hj : j < 2 ^ D) (W : World) :
    Calls Tryz.prog 133 #[.agg #[.int .i64 1, .int .i64 (D : Int), .int .i64 0, .string (Dr.bdy (entsF D t))], .int .i64 (j % 2 ^ t.dep j : Nat)] W fun e w' => e = .returned (.tuple #[.int .i64 ((t.at' j).n : Int), .bool true]) ∧ Below W.heap.size W w' := by
  have hlt : j % 2 ^ t.dep j < 2 ^ D := Nat.lt_of_le_of_lt (Nat.mod_le _ _) hj
  have hat := Dr.good_at (T.good h64) (j % 2 ^ t.dep j) (by rw [entsF_len]; exact hlt) W
  have h1 := entsF_get D t (j % 2 ^ t.dep j) hlt
  rw [(t.at_mod j (t.dep j) (Nat.le_refl _)).1] at h1
  rw [List.getD_eq_getElem?_getD, h1, Option.getD_some] at hat
  exact hat
set_option maxRecDepth 100000 in
set_option maxHeartbeats 8000000 in
theorem entries_ok (w0 w : World) (gb mb sb qb c n D tb : Nat) (pg : Nat → Pag) (tk : Int) (t : Tri) (h : GV w0 w gb mb sb qb c n pg tk) (T : Tb n pg D t) (htb : w.heap[tb]? = some (tbO gb D (Dr.bdy (entsF D t)))) :
    Calls Tryz.prog 66 #[.pointer (some ⟨tb, 0, none⟩)] w fun e w' => e = .returned (.bool true) ∧ Below w.heap.size w w' := by
  have hmk : ∀ W : World, (Instr.makeMap 234 none).run Tryz.prog W = .ok (.map (some W.heap.size)) (W.alloc (.map #[] 0)) := fun W => run_makeMap _ W
  have hgd := T.good h.n64
  have hle := hgd.le
  have hall := fun W => Dr.good_all hgd (2 ^ D) (entsF_len D t).symm W
  rw [entsF_len] at hle
  have h64 := h.n64
  have hgl := h.lt
  have hd5 := T.d5
  have htl := lt_of_block htb
  have hat := fun j hj W => T.at_own h64 j hj W
  obtain ⟨S, hS⟩ : ∃ S, S = Dr.bdy (entsF D t) := ⟨_, rfl⟩
  rw [← hS] at hall hat htb
  have HT := Lib.hid htb
  have ct := blk_cell (hal (o := .map #[] 0) htb)
  have lt' := lt_of_block (hal (o := .map #[] 0) htb)
  have G0 := Lib.hid h
  have TT := Lib.hid T
  have HE := Lib.hid (entsF_get D t)
  have HAT := Lib.hid hat
  generalize hMM : 2 ^ D = M at *
  have M0 := Lib.hid (NumIs.made w)
  have BM := Lib.hid (below_al (Below.refl _ w) (.map #[] 0))
  clear hS h htb T hgd hMM hat
  go_enter Tryz.func66, Tryz.ntmps66
  go_wp2_with fail
  with_reducible refine (hall _).mono ?_
  rintro e w1 ⟨ga, ca, rfl, hown, hga, hb1⟩
  have OA := Lib.hid hown
  have B1 := Lib.hid (below_base BM.out BM.out.size hb1)
  have HT1 := Lib.hid (blk_keep HT.out B1.out)
  have M1 : Hid (NumIs w1 w.heap.size (FB t 0) 0) := Lib.hid (M0.out.below hb1)
  have hw1 := hb1.size
  clear hown hb1 ct lt' hall M0 BM hmk
  go_wp2_with fail
  go_loopw [22] (fun v wr => ∃ j : Nat, v = .int .i64 (j : Nat) ∧ j ≤ M ∧ Hid (NumIs wr w.heap.size (FB t j) j) ∧ Hid (Keep (fun q => q = w.heap.size) w1 wr)) (fun v _ => M - (intOf v).toNat)
  case atStart => exact ⟨0, rfl, Nat.zero_le _, M1, Lib.hid (Keep.refl _ _)⟩
  case round =>
    clear M1
    obtain ⟨j, rfl, hj, N1, K1⟩ := hrel
    by_cases hlt : j < M
    · have hjI : (j : Int) < (M : Int) := by omega
      have i1w : IntKind.i64.wrap ((j : Int) + 1) = (j : Int) + 1 := IntWalk.i64_in _ (by omega)
      have oa := K1.out.row OA.out (fun g hg e => by have h1 := own_base OA.out g hg; rw [World.size_alloc] at h1; omega)
      have ca0 := own_at oa j (.int .i64 ((t.at' j).n : Int)) (by rw [ints, List.getElem?_map, HE.out j hlt]; rfl)
      have la := own_lt oa ga rfl
      have HTr := Lib.hid (K1.out.blk HT1.out (by omega))
      have gr := G0.out.rk B1.out
      have hrng := TT.out.at_rng j
      have hdl := t.dep_le j
      have hdD : t.dep j ≤ D := by have := TT.out.hi; omega
      have G1 := Lib.hid (gr.owns K1.out (fun q hq => by omega))
      have hget := fun W (hW : GV w0 W gb mb sb qb c n pg tk) => hW.getR (t.at' j).n hrng.2
      rw [TT.out.first j] at hget
      have hcs := bCells_ok ⟨3, (t.dep j : Nat), (nextF (t.at' j).ov : Nat), bodyF (t.at' j).cs⟩ (t.at' j).cs ⟨.inl rfl, rfl, TT.out.fits _ (t.at_mem j) _ (List.mem_cons_self ..)⟩
      have hatj := HAT.out j hlt
      have hcr := blk_cell HTr.out
      have lcr := lt_of_block HTr.out
      simp only [Pag.v] at hget hcs
      have hown := FB_own TT.out j
      have hmod : (j % 2 ^ t.dep j) < 32 := Nat.lt_of_le_of_lt (Nat.mod_le _ _) (by omega)
      have hp2 : 1 ≤ 2 ^ t.dep j ∧ 2 ^ t.dep j ≤ 32 := ⟨Nat.one_le_two_pow, by
        have : 2 ^ t.dep j ≤ 2 ^ 5 := Nat.pow_le_pow_right (by omega) (by omega)
        omega⟩
      have hand := and_shl j (t.dep j) (by omega) (by omega)
      have hcel : Hid (∀ x, x ∈ (t.at' j).cs → x.key.length ≤ 16 ∧ bitsF x.key (t.dep j) = j % 2 ^ t.dep j) := Lib.hid (fun x hx => by
        have hxc : x ∈ (t.at' j).cells := by rw [Lf.cells_eq]; exact List.mem_flatMap.2 ⟨((t.at' j).n, (t.at' j).cs), List.mem_cons_self .., hx⟩
        refine ⟨(cel_ok TT.out (t.at_mem j) hxc).key.2, ?_⟩
        have h1 := TT.out.lead _ (t.at_mem j) x hxc
        have h2 := TT.out.inj j (sumF x.key) (by rw [h1])
        exact h2.2.2.symm)
      have hlen59 := (TT.out.fits _ (t.at_mem j) ((t.at' j).n, (t.at' j).cs) (List.mem_cons_self ..)).len
      simp only at hlen59
      have HFB : Hid (FB t (j + 1) = updI (FB t j) ((t.at' j).n : Nat) ((j % 2 ^ t.dep j : Nat) : Int)) := Lib.hid rfl
      generalize hF1 : FB t (j + 1) = FJ1 at *
      have HF1 := Lib.hid hF1
      clear hF1
      generalize FB t j = FJ at *
      obtain ⟨Z, hZ⟩ : ∃ Z, Z = str (bodyF (t.at' j).cs) := ⟨_, rfl⟩
      rw [← hZ] at hget hcs
      clear hZ
      generalize (t.at' j).cs = cs at *
      generalize (nextF (t.at' j).ov : Nat) = nx at *
      generalize (t.at' j).n = NJ at *
      generalize hOW : j % 2 ^ t.dep j = OWN at *
      generalize hDJ : t.dep j = DJ at *
      have Hget := Lib.hid hget
      have Hcs := Lib.hid hcs
      have Hatj := Lib.hid hatj
      have Hand := Lib.hid hand
      clear hget hcs hatj hand hOW hDJ oa gr
      go_wp2_with fail
      with_reducible refine (Hget.out _ G1.out).mono ?_
      rintro e w2 ⟨rfl, g2, k2⟩
      have y2 := heap_alloc_new w2 (pagO 3 DJ nx Z)
      have B2 := Lib.hid (below_al k2.bel (pagO 3 DJ nx Z))
      have HT2 := Lib.hid (blk_keep HTr.out B2.out)
      have N2 := Lib.hid (N1.out.below B2.out)
      have Y2 := Lib.hid y2
      have cy := blk_cell y2
      have ly := lt_of_block y2
      have c2 := blk_cell HT2.out
      have l2 := lt_of_block HT2.out
      have hw2 := k2.bel.size
      clear g2 k2 y2 Hget N1 ca0 la hcr lcr
      go_wp2_with fail
      have dI : decide ((D : Int) < (DJ : Int)) = false := by simp; omega
      have dN : decide (D < DJ) = false := by simp; omega
      clear cy ly c2 l2
      refine wp_region_held_drew (S := (Bz (w2.alloc (pagO 3 DJ nx Z)))) (by kernel_rfl) (below_dr (Below.refl _ _)) (fun hHeld => ?_)
      refine Ra.W 0 ?_ ?_ hHeld ?_
      rotate_left
      · intro wq hSw
        go_simp
        try with_reducible rfl
      try simp only [Act.put, List.getElem_toArray, List.getElem_cons_succ, List.getElem_cons_zero, List.setIfInBounds_toArray, List.set_cons_zero, List.set_cons_succ]
      refine Ra.W 1 ?_ ?_ hHeld ?_
      rotate_left
      · intro wq hSw
        go_simp
        try rw [if_neg (by omega)]
        try rw [if_pos (by omega)]
        try with_reducible rfl
      try simp only [Act.put, List.getElem_toArray, List.getElem_cons_succ, List.getElem_cons_zero, List.setIfInBounds_toArray, List.set_cons_zero, List.set_cons_succ]
      refine Ra.W 2 ?_ ?_ hHeld ?_
      rotate_left
      · intro wq hSw
        go_simp
        try with_reducible rfl
      try simp only [Act.put, List.getElem_toArray, List.getElem_cons_succ, List.getElem_cons_zero, List.setIfInBounds_toArray, List.set_cons_zero, List.set_cons_succ]
      refine Ra.W 3 ?_ ?_ hHeld ?_
      rotate_left
      · intro wq hSw
        go_simp
        try with_reducible rfl
      try simp only [Act.put, List.getElem_toArray, List.getElem_cons_succ, List.getElem_cons_zero, List.setIfInBounds_toArray, List.set_cons_zero, List.set_cons_succ]
      refine Ra.W 4 ?_ ?_ hHeld ?_
      rotate_left
      · intro wq hSw
        have hSc := blk_cell (blk_keep HT2.out hSw); have hSl := lt_of_block (blk_keep HT2.out hSw); have hSd := blk_cell (blk_keep Y2.out hSw); have hSe := lt_of_block (blk_keep Y2.out hSw)
        go_simp
        try with_reducible rfl
      try simp only [Act.put, List.getElem_toArray, List.getElem_cons_succ, List.getElem_cons_zero, List.setIfInBounds_toArray, List.set_cons_zero, List.set_cons_succ]
      refine Ra.W 5 ?_ ?_ hHeld ?_
      rotate_left
      · intro wq hSw
        go_simp
        try rw [if_neg (by omega)]
        try rw [if_pos (by omega)]
        try with_reducible rfl
      try simp only [Act.put, List.getElem_toArray, List.getElem_cons_succ, List.getElem_cons_zero, List.setIfInBounds_toArray, List.set_cons_zero, List.set_cons_succ]
      refine Ra.W 6 ?_ ?_ hHeld ?_
      rotate_left
      · intro wq hSw
        go_simp
        try with_reducible rfl
      try simp only [Act.put, List.getElem_toArray, List.getElem_cons_succ, List.getElem_cons_zero, List.setIfInBounds_toArray, List.set_cons_zero, List.set_cons_succ]
      refine Ra.W 7 ?_ ?_ hHeld ?_
      rotate_left
      · intro wq hSw
        go_simp
        try with_reducible rfl
      try simp only [Act.put, List.getElem_toArray, List.getElem_cons_succ, List.getElem_cons_zero, List.setIfInBounds_toArray, List.set_cons_zero, List.set_cons_succ]
      refine Ra.W 8 ?_ ?_ hHeld ?_
      rotate_left
      · intro wq hSw
        go_simp
        try with_reducible rfl
      try simp only [Act.put, List.getElem_toArray, List.getElem_cons_succ, List.getElem_cons_zero, List.setIfInBounds_toArray, List.set_cons_zero, List.set_cons_succ]
      refine Ra.W 9 ?_ ?_ hHeld ?_
      rotate_left
      · intro wq hSw
        have hSc := blk_cell (blk_keep HT2.out hSw); have hSl := lt_of_block (blk_keep HT2.out hSw); have hSd := blk_cell (blk_keep Y2.out hSw); have hSe := lt_of_block (blk_keep Y2.out hSw)
        go_simp
        try with_reducible rfl
      try simp only [Act.put, List.getElem_toArray, List.getElem_cons_succ, List.getElem_cons_zero, List.setIfInBounds_toArray, List.set_cons_zero, List.set_cons_succ]
      refine Ra.W 10 ?_ ?_ hHeld ?_
      rotate_left
      · intro wq hSw
        go_simp
        try with_reducible rfl
      try simp only [Act.put, List.getElem_toArray, List.getElem_cons_succ, List.getElem_cons_zero, List.setIfInBounds_toArray, List.set_cons_zero, List.set_cons_succ]
      refine Ra.W 11 ?_ ?_ hHeld ?_
      rotate_left
      · intro wq hSw
        go_simp
        try with_reducible rfl
      try simp only [Act.put, List.getElem_toArray, List.getElem_cons_succ, List.getElem_cons_zero, List.setIfInBounds_toArray, List.set_cons_zero, List.set_cons_succ]
      refine Ra.W 12 ?_ ?_ hHeld ?_
      rotate_left
      · intro wq hSw
        go_simp
        try with_reducible rfl
      try simp only [Act.put, List.getElem_toArray, List.getElem_cons_succ, List.getElem_cons_zero, List.setIfInBounds_toArray, List.set_cons_zero, List.set_cons_succ]
      refine Ra.W 13 ?_ ?_ hHeld ?_
      rotate_left
      · intro wq hSw
        go_simp
        try with_reducible rfl
      try simp only [Act.put, List.getElem_toArray, List.getElem_cons_succ, List.getElem_cons_zero, List.setIfInBounds_toArray, List.set_cons_zero, List.set_cons_succ]
      refine Ra.W 14 ?_ ?_ hHeld ?_
      rotate_left
      · intro wq hSw
        have hSc := blk_cell (blk_keep HT2.out hSw); have hSl := lt_of_block (blk_keep HT2.out hSw); have hSd := blk_cell (blk_keep Y2.out hSw); have hSe := lt_of_block (blk_keep Y2.out hSw)
        go_simp
        try with_reducible rfl
      try simp only [Act.put, List.getElem_toArray, List.getElem_cons_succ, List.getElem_cons_zero, List.setIfInBounds_toArray, List.set_cons_zero, List.set_cons_succ]
      refine Ra.W 15 ?_ ?_ hHeld ?_
      rotate_left
      · intro wq hSw
        go_simp
        try rw [if_neg (by omega)]
        try rw [if_pos (by omega)]
        try with_reducible rfl
      try simp only [Act.put, List.getElem_toArray, List.getElem_cons_succ, List.getElem_cons_zero, List.setIfInBounds_toArray, List.set_cons_zero, List.set_cons_succ]
      refine Ra.W 16 ?_ ?_ hHeld ?_
      rotate_left
      · intro wq hSw
        go_simp
        try with_reducible rfl
      try simp only [Act.put, List.getElem_toArray, List.getElem_cons_succ, List.getElem_cons_zero, List.setIfInBounds_toArray, List.set_cons_zero, List.set_cons_succ]
      refine wpAnyH_done (by kernel_rfl) ?_ _
      have Y3 := Lib.hid (blk_keep Y2.out hHeld)
      have HT3 := Lib.hid (blk_keep HT2.out hHeld)
      have N3 := Lib.hid (N2.out.below hHeld)
      have B3 := Lib.hid (below_tr B2.out hHeld)
      clear hHeld Y2 HT2 N2 B2 dI dN
      have cy := blk_cell Y3.out
      have ly := lt_of_block Y3.out
      have c3 := blk_cell HT3.out
      have l3 := lt_of_block HT3.out
      obtain ⟨w3, hw3⟩ : ∃ w3, w3 = (w2.alloc (pagO 3 DJ nx Z)).drew := ⟨_, rfl⟩
      rw [← hw3] at Y3 HT3 N3 B3 cy ly c3 l3 ⊢
      clear hw3
      go_wp2_with fail
      rw [Hand.out]
      with_reducible refine (Hatj.out _).mono ?_
      rintro e w4 ⟨rfl, hb4⟩
      have Y4 := Lib.hid (blk_keep Y3.out hb4)
      have N4 := N3.out.below hb4
      have B4 := Lib.hid (below_tr B3.out hb4)
      have G4 := Lib.hid (G1.out.rk B4.out)
      have hwf1 : (Lit.int .i64 (NJ : Nat)).wf = true := kl_wf (by omega) (by omega)
      have hwf2 : (Lit.int .i64 (OWN : Nat)).wf = true := kl_wf (by omega) (by omega)
      have hlk := N4.look (NJ : Nat) hwf1
      obtain ⟨w5, hput, n5, hg5⟩ := N4.put (NJ : Nat) (OWN : Nat) hwf1 hwf2 (by omega)
      rw [← HFB.out] at n5
      have N5 := Lib.hid n5
      have Y5 := Lib.hid (grown_blk hg5 (fun e => by injection e with e; have := lt_of_block Y4.out; have := B4.out.size; have := K1.out.size; rw [World.size_alloc] at hw1; omega) Y4.out)
      have K5 := Lib.hid ((K1.out.below B4.out).trans (Keep.grown (S := fun q => q = w.heap.size) hg5 (fun k hk => by injection hk with hk; exact hk.symm)))
      clear n5 hg5 hb4 N4 N3 cy ly c3 l3 HT3 Hand Hatj
      have cy := blk_cell Y5.out
      have ly := lt_of_block Y5.out
      rcases hown with hno | hyes
      · rw [hno] at hlk
        simp only [Option.getD_none, Option.isSome_none] at hlk
        go_wp2_with fail
        with_reducible refine (Hcs.out _).mono ?_
        rintro e w6 ⟨A6, c6, rfl, ho6, hb6⟩
        have O6 := Lib.hid ho6
        have N6 := Lib.hid (N5.out.below hb6)
        have K6 := Lib.hid (K5.out.below hb6)
        have Y6 := Lib.hid (blk_keep Y5.out hb6)
        have HK6 : Hid (∀ x, x ∈ cs → x.key.length ≤ 16 ∧ bitsF x.key DJ = OWN) := hcel
        clear ho6 hb6 cy ly N5 Y5 K5 hlk hput Hcs
        go_wp2_with fail
        go_loopw [91] (fun v W => ∃ i : Nat, v = .int .i64 (i : Nat) ∧ i ≤ cs.length ∧ Hid (Below w6.heap.size w6 W)) (fun v _ => cs.length - (intOf v).toNat)
        case atStart => exact ⟨0, rfl, Nat.zero_le _, Lib.hid (Below.refl _ _)⟩
        case round =>
          obtain ⟨i, rfl, hi, B7⟩ := hrel
          have B7' : Hid (Below w6.heap.size w6 wr) := B7
          by_cases hil : i < cs.length
          · obtain ⟨g6, rfl⟩ : ∃ g, A6 = some ⟨g, 0, none⟩ := by
              rcases O6.out.2 with ⟨_, h0⟩ | ⟨g, cap, cur, h0, _⟩
              · omega
              · injection h0 with h0; exact ⟨g, h0⟩
            have own := own_below O6.out B7.out
            have pc := fun r (hr : r < 4) (u : Value) (hu : (cs[i].cells)[r]? = some u) => own_at own (i * 4 + r) u ((flatC_at hil r hr).trans hu)
            have p0 := pc 0 (by omega) _ rfl
            have p1 := pc 1 (by omega) _ rfl
            have p2 := pc 2 (by omega) _ rfl
            have p3 := pc 3 (by omega) _ rfl
            rw [Nat.add_zero] at p0
            have lg := own_lt own g6 rfl
            obtain ⟨hk16, hbb⟩ := HK6.out _ (List.getElem_mem hil)
            have hbits := fun W => bits_any cs[i].key DJ (by omega) W (by omega)
            rw [hbb] at hbits
            obtain ⟨U1, hU1⟩ : ∃ U, U = str cs[i].key := ⟨_, rfl⟩
            obtain ⟨U2, hU2⟩ : ∃ U, U = str cs[i].val := ⟨_, rfl⟩
            obtain ⟨xb, hxb⟩ : ∃ b : Int, b = cs[i].blob := ⟨_, rfl⟩
            obtain ⟨xz, hxz⟩ : ∃ b : Int, b = cs[i].size := ⟨_, rfl⟩
            rw [← hU1] at hbits p0
            rw [← hU2] at p1
            rw [← hxb] at p2
            rw [← hxz] at p3
            have hiI : (i : Int) < (cs.length : Int) := by omega
            have i2w : IntKind.i64.wrap ((i : Int) + 1) = (i : Int) + 1 := IntWalk.i64_in _ (by omega)
            have B8 := Lib.hid (below_al B7.out (celO U1 U2 xb xz))
            have zc := heap_alloc_new wr (celO U1 U2 xb xz)
            have cz := blk_cell zc
            have lz := lt_of_block zc
            have zy := blk_keep Y6.out B8.out
            have cy := blk_cell zy
            have ly := lt_of_block zy
            clear hU1 hU2 hxb hxz pc own zc zy hbb hk16
            go_wp2_with fail
            with_reducible refine (hbits _).mono ?_
            rintro e w9 ⟨rfl, hb9⟩
            have B9 := Lib.hid (below_base B8.out B8.out.size hb9)
            clear hb9 hbits B8 B7 cz lz cy ly p0 p1 p2 p3 lg
            go_wp2_with fail
            go_roundw
            case rel => exact ⟨i + 1, by go_num, by omega, B9⟩
            case measure => clear i2w i1w; simp [intOf]; omega
          · have N8 := Lib.hid (N6.out.below B7.out)
            have K8 := Lib.hid (K6.out.below B7.out)
            clear B7 B7'
            go_wp2_with fail
            go_roundw
            case rel => exact ⟨j + 1, by go_num, by omega, Lib.hid (by rw [HF1.out]; exact N8.out), K8⟩
            case measure => clear i1w; simp [intOf]; omega
      · rw [hyes] at hlk
        simp only [Option.getD_some, Option.isSome_some] at hlk
        go_wp2_with fail
        with_reducible refine (Hcs.out _).mono ?_
        rintro e w6 ⟨A6, c6, rfl, ho6, hb6⟩
        have O6 := Lib.hid ho6
        have N6 := Lib.hid (N5.out.below hb6)
        have K6 := Lib.hid (K5.out.below hb6)
        have Y6 := Lib.hid (blk_keep Y5.out hb6)
        have HK6 : Hid (∀ x, x ∈ cs → x.key.length ≤ 16 ∧ bitsF x.key DJ = OWN) := hcel
        clear ho6 hb6 cy ly N5 Y5 K5 hlk hput Hcs
        go_wp2_with fail
        go_loopw [91] (fun v W => ∃ i : Nat, v = .int .i64 (i : Nat) ∧ i ≤ cs.length ∧ Hid (Below w6.heap.size w6 W)) (fun v _ => cs.length - (intOf v).toNat)
        case atStart => exact ⟨0, rfl, Nat.zero_le _, Lib.hid (Below.refl _ _)⟩
        case round =>
          obtain ⟨i, rfl, hi, B7⟩ := hrel
          have B7' : Hid (Below w6.heap.size w6 wr) := B7
          by_cases hil : i < cs.length
          · obtain ⟨g6, rfl⟩ : ∃ g, A6 = some ⟨g, 0, none⟩ := by
              rcases O6.out.2 with ⟨_, h0⟩ | ⟨g, cap, cur, h0, _⟩
              · omega
              · injection h0 with h0; exact ⟨g, h0⟩
            have own := own_below O6.out B7.out
            have pc := fun r (hr : r < 4) (u : Value) (hu : (cs[i].cells)[r]? = some u) => own_at own (i * 4 + r) u ((flatC_at hil r hr).trans hu)
            have p0 := pc 0 (by omega) _ rfl
            have p1 := pc 1 (by omega) _ rfl
            have p2 := pc 2 (by omega) _ rfl
            have p3 := pc 3 (by omega) _ rfl
            rw [Nat.add_zero] at p0
            have lg := own_lt own g6 rfl
            obtain ⟨hk16, hbb⟩ := HK6.out _ (List.getElem_mem hil)
            have hbits := fun W => bits_any cs[i].key DJ (by omega) W (by omega)
            rw [hbb] at hbits
            obtain ⟨U1, hU1⟩ : ∃ U, U = str cs[i].key := ⟨_, rfl⟩
            obtain ⟨U2, hU2⟩ : ∃ U, U = str cs[i].val := ⟨_, rfl⟩
            obtain ⟨xb, hxb⟩ : ∃ b : Int, b = cs[i].blob := ⟨_, rfl⟩
            obtain ⟨xz, hxz⟩ : ∃ b : Int, b = cs[i].size := ⟨_, rfl⟩
            rw [← hU1] at hbits p0
            rw [← hU2] at p1
            rw [← hxb] at p2
            rw [← hxz] at p3
            have hiI : (i : Int) < (cs.length : Int) := by omega
            have i2w : IntKind.i64.wrap ((i : Int) + 1) = (i : Int) + 1 := IntWalk.i64_in _ (by omega)
            have B8 := Lib.hid (below_al B7.out (celO U1 U2 xb xz))
            have zc := heap_alloc_new wr (celO U1 U2 xb xz)
            have cz := blk_cell zc
            have lz := lt_of_block zc
            have zy := blk_keep Y6.out B8.out
            have cy := blk_cell zy
            have ly := lt_of_block zy
            clear hU1 hU2 hxb hxz pc own zc zy hbb hk16
            go_wp2_with fail
            with_reducible refine (hbits _).mono ?_
            rintro e w9 ⟨rfl, hb9⟩
            have B9 := Lib.hid (below_base B8.out B8.out.size hb9)
            clear hb9 hbits B8 B7 cz lz cy ly p0 p1 p2 p3 lg
            go_wp2_with fail
            go_roundw
            case rel => exact ⟨i + 1, by go_num, by omega, B9⟩
            case measure => clear i2w i1w; simp [intOf]; omega
          · have N8 := Lib.hid (N6.out.below B7.out)
            have K8 := Lib.hid (K6.out.below B7.out)
            clear B7 B7'
            go_wp2_with fail
            go_roundw
            case rel => exact ⟨j + 1, by go_num, by omega, Lib.hid (by rw [HF1.out]; exact N8.out), K8⟩
            case measure => clear i1w; simp [intOf]; omega
    · obtain rfl : j = M := by omega
      have BF := Lib.hid (below_keep B1.out B1.out.size K1.out (fun q hq => by omega))
      clear N1 K1
      go_wp2_with fail
      go_ret
      exact ⟨rfl, BF.out⟩
end Go.Proofs.YtijhamllnnilbaaGreatDoor.Ha
