/- Lemmas of the claim, in their order:
- The contract of the table's merge.
-/
import Derived.Test.YtijhamllnnilbaaGreatDoorQ39
import Derived.Test.YtijhamllnnilbaaGreatDoorQ38
import Derived.Deep.DeepCutAuto
set_option linter.unusedVariables false
set_option linter.unusedSimpArgs false
namespace Go.Proofs.YtijhamllnnilbaaGreatDoor.Ha
open Go.RowKit Go.Proofs.YtijhamllnnilbaaGreatDoor.Mem Go.Proofs.YtijhamllnnilbaaGreatDoor.Pg Go.Proofs.YtijhamllnnilbaaGreatDoor.Kp Go.Proofs.YtijhamllnnilbaaGreatDoor.Sp Go.Proofs.YtijhamllnnilbaaGreatDoor.Gr
set_option linter.unusedSimpArgs false
set_option linter.unusedVariables false
def MergePost (w0 : World) (gb mb sb qb c n D tb : Nat) (pg : Nat → Pag) (t : Tri) (ml : List UInt8) (X : List Nat) (tk0 : Int) (h : Nat) (e : Ending) (w' : World) : Prop :=
 (e = .returned (.tuple #[.bool false, .int .i64 0]) ∧ Stop h t ∧ St w0 w' gb mb sb qb c n pg D t ml X tk0 ∧ w'.heap[tb]? = some (tbO gb D (Dr.bdy (entsF D t)))) ∨
 (e = .returned (.tuple #[.bool true, .int .i64 0]) ∧ ∃ (d : Nat) (a b : Lf) (m : List Cel) (pg' : Nat → Pag) (ml' : List UInt8), t.dep h = d + 1 ∧ t.sub h d = .node (.leaf a) (.leaf b) ∧ m.Perm (a.cs ++ b.cs) ∧ St w0 w' gb mb sb qb c n pg' D (t.upd h d (.leaf ⟨a.n, m, []⟩)) ml' X tk0 ∧
  (∀ k, lookT (t.upd h d (.leaf ⟨a.n, m, []⟩)) k = lookT t k) ∧ SameX X pg pg' ∧ w'.heap[tb]? = some (tbO gb D (Dr.bdy (entsF D (t.upd h d (.leaf ⟨a.n, m, []⟩))))))
theorem pags_head (b : Lf) (d : Nat) : (b.pags d)[0]? = some (b.n, ⟨3, (d : Nat), (nextF b.ov : Nat), bodyF b.cs⟩) := rfl
theorem pags_len (b : Lf) (d : Nat) : (b.pags d).length = b.ov.length + 1 := by unfold Lf.pags; rw [pagsF_len]; rfl
theorem sort_cells (l : List Cel) : ∃ m : List Cel, m.Perm l ∧ SortedK Cel.key m := by
 refine ⟨l.mergeSort (fun a b => decide (a.key ≤ b.key)), List.mergeSort_perm .., ?_⟩
 have h := List.pairwise_mergeSort (le := fun a b : Cel => decide (a.key ≤ b.key)) (fun a b d h1 h2 => by simp only [decide_eq_true_eq] at *; exact List.le_trans h1 h2) (fun a b => by
  simp only [Bool.or_eq_true, decide_eq_true_eq]
  exact List.le_total a.key b.key) l
 exact h.imp fun h => by simpa using h
set_option maxRecDepth 100000 in
set_option maxHeartbeats 16000000 in
theorem merge_ok (w0 W : World) (gb mb sb qb c n D tb : Nat) (pg : Nat → Pag) (t : Tri) (ml : List UInt8) (X : List Nat) (tk0 : Int) (key : List UInt8) (hS : St w0 W gb mb sb qb c n pg D t ml X tk0) (htb : W.heap[tb]? = some (tbO gb D (Dr.bdy (entsF D t)))) (hge : w0.heap.size ≤ tb ∧ gb < tb ∧ mb < tb) (hkl : key.length ≤ 1000) (hk : -900000 ≤ tk0 ∧ tk0 ≤ 900000) :
 Calls Tryz.prog 161 #[.pointer (some ⟨tb, 0, none⟩), .string (str key)] W fun e w' => MergePost w0 gb mb sb qb c n D tb pg t ml X tk0 (sumF key) e w' ∧ Ck w0.heap.size gb mb tb W w' := by
 have T := hS.hs.tb
 have h64 := hS.gv.n64
 have hgb := hS.gv.base
 have hgl := hS.gv.lt
 have hD5 := T.d5
 have hbuck := bucket_ok w0 W gb mb sb qb c n D tb pg _ t key hS.gv T hkl htb hge.1
 have hbits := fun W (d : Nat) (hd : d ≤ 31) => bits_any key d hd W (by omega)
 obtain ⟨U, hU⟩ : ∃ U, U = str key := ⟨_, rfl⟩
 rw [← hU] at hbuck ⊢
 simp only [← hU] at hbits
 have HST := Lib.hid hS
 have HTB := Lib.hid htb
 have HBITS : Hid (∀ W (d : Nat), d ≤ 31 → Calls Tryz.prog 134 #[.string U, .int .i64 d] W fun e w' => e = .returned (.int .i64 ((sumF key % 2 ^ d : Nat) : Int)) ∧ Below W.heap.size W w') := Lib.hid hbits
 generalize sumF key = h at *
 have tlt := lt_of_block htb
 have hhi := T.hi
 have hdle := t.dep_le h
 have hcl := (T.chn h64 h).len
 have hLl := pags_len (t.at' h) (t.dep h)
 have hpl1 : (t.at' h).pgs.length = (t.at' h).ov.length + 1 := rfl
 have hpg0 := pags_head (t.at' h) (t.dep h)
 clear hU hS hbits T htb
 go_enter Tryz.func161, Tryz.ntmps161
 go_wp2_with fail
 with_reducible refine hbuck.mono ?_
 rintro e w2 ⟨cb, rfl, hch, g2, k2⟩
 obtain ⟨nb, pb, cn, cp, hf⟩ := hch.form (by omega)
 have CH2 := Lib.hid hch
 have G2 := Lib.hid g2
 have K2 := Lib.hid k2
 have HT2 := Lib.hid (k2.blk HTB.out hge.1)
 have hblk := hf.blk
 obtain ⟨LL, hLL⟩ : ∃ L, L = (t.at' h).ov.length + 1 := ⟨_, rfl⟩
 rw [hLl, ← hLL] at hblk
 have HB2 := Lib.hid hblk
 have c1 : w2.cell? ⟨pb, 1, none⟩ = some (.int .i64 (t.dep h : Nat)) := (hf.pag 0 _ _ hpg0).2.1
 have cc := blk_cell hblk
 have lc := lt_of_block hblk
 have lp := hf.pl
 have l0 : (0 : Int) < (LL : Int) := by omega
 have HF2 := Lib.hid hf
 have SZ2 := k2.size
 have HLL := Lib.hid hLL
 clear hbuck hch g2 k2 hblk hf hLL
 rcases hdep : t.dep h with _ | d
 · rw [hdep] at c1
   have HP : Hid (MergePost w0 gb mb sb qb c n D tb pg t ml X tk0 h (.returned (.tuple #[.bool false, .int .i64 0])) w2 ∧ Ck w0.heap.size gb mb tb W w2) := Lib.hid ⟨.inl ⟨rfl, .inl hdep, ⟨G2.out, HST.out.hs⟩, HT2.out⟩, .of_rk K2.out⟩
   clear hdep
   go_wp2_with fail
   go_ret2
   exact HP.out
 · rw [hdep] at c1
   have hd4 : d ≤ 4 := by omega
   obtain ⟨DP, hDP⟩ : ∃ x : Int, x = ((d + 1 : Nat) : Int) := ⟨_, rfl⟩
   rw [← hDP] at c1
   have hDP0 : ¬ DP = 0 := by omega
   have hDPb : (DP == 0) = false := by simpa using hDP0
   by_cases hov : (t.at' h).ov = []
   · have hLL1 : ¬ (1 : Int) < (LL : Int) := by have h1 := HLL.out; rw [hov] at h1; simp at h1; omega
     have hsub1 : IntKind.i64.wrap (DP - 1) = (d : Int) := by rw [hDP, IntWalk.i64_in] <;> omega
     obtain ⟨x1, x2, x3⟩ := bits_half h d hd4
     obtain ⟨BK, hBK⟩ : ∃ b : Int, b = ((h % 2 ^ (d + 1) : Nat) : Int) := ⟨_, rfl⟩
     have hbt := HBITS.out w2 (d + 1) (by omega)
     rw [← hBK] at hbt x1 x2 x3
     rw [← hDP] at hbt
     obtain ⟨SB, hSB⟩ : ∃ s, s = sibF d h := ⟨_, rfl⟩
     rw [← hSB] at x1
     obtain ⟨TOP, hTOP⟩ : ∃ x : Int, x = wrap64 ((2 : Int) ^ d) := ⟨_, rfl⟩
     rw [← hTOP] at x1 x2 x3
     have HX := Lib.hid (And.intro x1 (And.intro x2 x3))
     have T := HST.out.hs.tb
     have hsl : SB < 2 ^ D := by
      rw [hSB]
      have h1 := (sib_parts d h).2.2
      have h2 : 2 ^ (d + 1) ≤ 2 ^ D := Nat.pow_le_pow_right (by omega) (by omega)
      omega
     have hat := fun W => Dr.good_at (T.good h64) SB (by rw [entsF_len]; exact hsl) W
     have hget : (entsF D t).getD SB 0 = ((t.at' SB).n : Int) := by rw [List.getD_eq_getElem?_getD, entsF_get _ _ _ hsl]; rfl
     rw [hget] at hat
     obtain ⟨NS, hNS⟩ : ∃ x, x = (t.at' SB).n := ⟨_, rfl⟩
     rw [← hNS] at hat
     have hread := fun W (hW : GV w0 W gb mb sb qb c n pg (tk0 + ((numsF t.leaves).length : Int))) => read_ok w0 W gb mb sb qb c n (t.dep SB) pg _ (t.at' SB) hW (T.chn h64 SB)
     rw [← hNS] at hread
     obtain ⟨EB, hEB⟩ : ∃ S, S = Dr.bdy (entsF D t) := ⟨_, rfl⟩
     simp only [← hEB] at hat
     have hcSB := (T.chn h64 SB).len
     have hLs := pags_len (t.at' SB) (t.dep SB)
     have hpgs := pags_head (t.at' SB) (t.dep SB)
     have hplS : (t.at' SB).pgs.length = (t.at' SB).ov.length + 1 := rfl
     have Hat := Lib.hid hat
     have Hread := Lib.hid hread
     have HEB := Lib.hid hEB
     have EQ := Lib.hid (And.intro hdep (And.intro hDP (And.intro hBK (And.intro hSB (And.intro hTOP hNS)))))
     have HOV := Lib.hid hov
     have ct := blk_cell HT2.out
     have lt2 := lt_of_block HT2.out
     simp only [← hEB] at ct
     clear hdep hDP hBK hSB hNS hTOP hEB hat hread x1 x2 x3 T hget hsl hov
     go_wp2_with fail
     with_reducible refine hbt.mono ?_
     rintro e w3 ⟨rfl, hb3⟩
     have G3 := Lib.hid (G2.out.rk hb3)
     have HT3 := Lib.hid (blk_keep HT2.out hb3)
     have CH3 := Lib.hid (CH2.out.below hb3)
     have B3 := Lib.hid hb3
     have ct3 := blk_cell HT3.out
     have lt3 := lt_of_block HT3.out
     rw [← HEB.out] at ct3
     clear hbt hb3 ct lt2 cc lc lp c1
     go_wp2_with fail
     have hTOP := EQ.out.2.2.2.2.1
     rw [← hTOP, HX.out.1]
     clear hTOP
     with_reducible refine (Hat.out w3).mono ?_
     rintro e w4 ⟨rfl, hb4⟩
     have G4 := Lib.hid (G3.out.rk hb4)
     have HT4 := Lib.hid (blk_keep HT3.out hb4)
     have CH4 := Lib.hid (CH3.out.below hb4)
     have K4 := Lib.hid ((K2.out.below B3.out).below hb4)
     have ct4 := blk_cell HT4.out
     have lt4 := lt_of_block HT4.out
     have hrd := Hread.out w4 G4.out
     clear hb4 ct3 lt3 G3 HT3 CH3 B3 G2 HT2 CH2 HB2 HF2
     go_wp2_with fail
     with_reducible refine hrd.mono ?_
     rintro e w5 ⟨ob, rfl, hco, g5, k5⟩
     have T := HST.out.hs.tb
     have hw0 : w0.heap.size ≤ W.heap.size := by omega
     have CH5 := Lib.hid (CH4.out.rk k5 hw0)
     have HT5 := Lib.hid (k5.blk HT4.out hge.1)
     have CO5 := Lib.hid hco
     have G5 := Lib.hid g5
     have K5 := Lib.hid (K4.out.trans k5)
     have hca := fun V (hc : Ch W.heap.size V cb gb ((t.at' h).pags (t.dep h))) => ccells_any V _ cb gb _ (t.at' h).pgs hc (bkL_pags 3 _ (.inl rfl) _ (T.fits _ (t.at_mem h))) (by omega) (by omega)
     have hcb := fun V (hc : Ch w4.heap.size V ob gb ((t.at' SB).pags (t.dep SB))) => ccells_any V _ ob gb _ (t.at' SB).pgs hc (bkL_pags 3 _ (.inl rfl) _ (T.fits _ (t.at_mem SB))) (by omega) (by omega)
     have hna := cellsP_getLe (T.fits _ (t.at_mem h)) hcl
     have hnb := cellsP_getLe (T.fits _ (t.at_mem SB)) hcSB
     have Hca := Lib.hid hca
     have Hcb := Lib.hid hcb
     generalize hCA : cellsP (t.at' h).pgs = CA at *
     generalize hCB : cellsP (t.at' SB).pgs = CB at *
     have ECAB := Lib.hid (And.intro hCA hCB)
     obtain ⟨i0, hi, hz0, hz1, hz2⟩ := info_parts info_cell
     clear hco g5 k5 hrd ct4 lt4 T hca hcb hCA hCB Hread Hat HBITS
     go_upto_region 13 with fail
     go_cut [14] (fun v14 V => ∃ (A : Option Addr) (cap : Nat), v14 = .slice A (CA.length + CB.length) cap ∧ Hid (V.ownsRow w5.heap.size 33 4 (.slice A (CA.length + CB.length) cap) (CA.length + CB.length) (flatC (CA ++ CB))) ∧ Hid (Below w5.heap.size w5 V))
     case first =>
      have hc1 := Hca.out w5 CH5.out
      go_wp2_with fail
      with_reducible refine hc1.mono ?_
      rintro e w6 ⟨A1, c1, rfl, ho1, hb6⟩
      have hc2 := Hcb.out w6 (CO5.out.below hb6)
      have O1 := Lib.hid ho1
      have B6 := Lib.hid hb6
      clear ho1 hb6 hc1
      go_wp2_with fail
      with_reducible refine hc2.mono ?_
      rintro e w7 ⟨A2, c2, rfl, ho2, hb7⟩
      have O17 := Lib.hid (own_below O1.out hb7)
      have O2 := Lib.hid ho2
      have B7 := Lib.hid (below_base B6.out B6.out.size hb7)
      have hsz7 := B7.out.size
      have hl := O17.out
      clear ho2 hb7 hc2 O1
      by_cases h0 : CB = []
      · subst h0
        have hcap : CA.length ≤ c1 := by
         rcases O17.out.2 with ⟨e, h⟩ | ⟨g, c', _, h, _, h2, _⟩
         · omega
         · injection h with _ _ h; omega
        have hrun := fun ty (W : World) => run_append_none (P := Tryz.prog) W 142 ty 33 i0 Tryz.underlying142 hi A1 A2 CA.length c1 c2 hcap
        clear hl
        go_wp2_with (at_builtin; refine Lib.wpList_append_run _ rfl _ _ _ _ rfl _ _ rfl rfl _ _ (hrun _ _) ?_)
        go_meet
        exact ⟨A1, c1, rfl, Lib.hid (by rw [List.append_nil]; exact O17.out), B7⟩
      · have hpos2 : 0 < CB.length := List.length_pos_iff.2 h0
        obtain ⟨a, cq, hA⟩ : ∃ a cq, Value.slice A2 CB.length c2 = .slice (some ⟨a, 0, none⟩) CB.length cq := by
         rcases O2.out.2 with ⟨e, h⟩ | ⟨g, c', _, h, _, h2, _⟩
         · omega
         · exact ⟨_, _, h⟩
        injection hA with hA _ hA2
        subst hA hA2
        go_wp2_with (at_builtin; refine wpList_append_own _ rfl (.tmp 76) (.tmp 78) _ rfl w5.heap.size 33 i0 (.agg #[.string ⟨#[]⟩, .string ⟨#[]⟩, .int .i64 0, .int .i64 0]) 4 48 Tryz.underlying142 hi hz0 hz1 hz2 rfl (by decide) _ CA.length (flatC CA) rfl hl ⟨a, 0, none⟩ CB.length c2 (flatC CB) rfl (flatC_len CB) (fun r u hr => O2.out.cells (g := a) rfl r u hr) (cel_one CB) (by unfold maxLen; omega) (by omega) hsz7 ?_; intro v' w8 hown8 hgrow _)
        obtain ⟨A8, c8, rfl⟩ := own_slice hown8
        have O8 : Hid (w8.ownsRow w5.heap.size 33 4 (.slice A8 (CA.length + CB.length) c8) (CA.length + CB.length) (flatC (CA ++ CB))) := Lib.hid (by rw [flatC_append]; exact hown8)
        have B8 := Lib.hid (below_grown (b := w8) B7.out hsz7 hl hgrow)
        clear hown8 hgrow hl
        go_meet
        exact ⟨A8, c8, rfl, O8, B8⟩
     case rest =>
      obtain ⟨A, cap, rfl, OA, BA⟩ := hcut
      have CHa := Lib.hid (CH5.out.below BA.out)
      have COa := Lib.hid (CO5.out.below BA.out)
      have HTa := Lib.hid (blk_keep HT5.out BA.out)
      have Ga := Lib.hid (G5.out.rk BA.out)
      have Ka := Lib.hid (K5.out.below BA.out)
      obtain ⟨nbo, pbo, cno, cpo, hfo⟩ := COa.out.form (by omega)
      have hblko := hfo.blk
      obtain ⟨LS, hLS⟩ : ∃ L, L = (t.at' SB).ov.length + 1 := ⟨_, rfl⟩
      rw [hLs, ← hLS] at hblko
      obtain ⟨DS, hDS⟩ : ∃ x : Int, x = (t.dep SB : Nat) := ⟨_, rfl⟩
      have c1 : wc.cell? ⟨pbo, 1, none⟩ = some (.int .i64 DS) := by rw [hDS]; exact (hfo.pag 0 _ _ hpgs).2.1
      have cc := blk_cell hblko
      have lc := lt_of_block hblko
      have lp := hfo.pl
      have l0s : (0 : Int) < (LS : Int) := by omega
      have HFo := Lib.hid hfo
      have HLS := Lib.hid hLS
      have HDS := Lib.hid hDS
      have hstop : (DS ≠ DP ∨ 1 < LS ∨ 239 < szs CA + szs CB) → Hid (∀ V, Below wc.heap.size wc V → MergePost w0 gb mb sb qb c n D tb pg t ml X tk0 h (.returned (.tuple #[.bool false, .int .i64 0])) V ∧ Ck w0.heap.size gb mb tb W V) := fun hcase => Lib.hid (fun V hV => by
       obtain ⟨e1, e2, e3, e4, e5, e6⟩ := EQ.out
       refine ⟨.inl ⟨rfl, .inr (.inr ⟨d, e1, ?_⟩), ⟨Ga.out.rk hV, HST.out.hs⟩, blk_keep HTa.out hV⟩, .of_rk (Ka.out.below hV)⟩
       rw [← e4]
       rcases hcase with h1 | h1 | h1
       · refine .inl fun h2 => h1 ?_
         have := HDS.out
         omega
       · refine .inr (.inl fun h2 => ?_)
         have h3 := HLS.out
         rw [h2] at h3
         simp at h3
         omega
       · refine .inr (.inr ?_)
         have h3 := ECAB.out
         rw [Lf.cells_eq, Lf.cells_eq, h3.1, h3.2]
         exact h1)
      have Hstop := Lib.hid hstop
      clear hfo hblko hLS hDS hstop CH5 CO5 HT5 G5 K5
      by_cases hdd : DS = DP
      · subst hdd
        have hdb : (DS != DS) = false := by simp
        by_cases hl1 : 1 < LS
        · have hl1I : (1 : Int) < (LS : Int) := by omega
          have HP := Hstop.out (.inr (.inl hl1))
          go_wp2_with fail
          go_ret2
          exact HP.out _ (Below.refl _ _)
        · have hl1I : ¬ (1 : Int) < (LS : Int) := by omega
          have hovS : (t.at' SB).ov = [] := by
           have h3 := HLS.out
           exact List.length_eq_zero_iff.1 (by omega)
          have T := HST.out.hs.tb
          have hCAe : CA = (t.at' h).cs := by rw [← ECAB.out.1]; exact cells_of_cs HOV.out
          have hCBe : CB = (t.at' SB).cs := by rw [← ECAB.out.2]; exact cells_of_cs hovS
          have hfA : Fits CA := by rw [hCAe]; exact T.fits _ (t.at_mem h) ((t.at' h).n, _) (List.mem_cons_self ..)
          have hfB : Fits CB := by rw [hCBe]; exact T.fits _ (t.at_mem SB) ((t.at' SB).n, _) (List.mem_cons_self ..)
          have hkeys : ((CA ++ CB).map Cel.key).Nodup := by
           have h1 := sib_keys T EQ.out.1
           rw [← EQ.out.2.2.2.1] at h1
           rw [← ECAB.out.1, ← ECAB.out.2]
           exact h1
          have OA2 : Hid (wc.ownsRow w5.heap.size 33 4 (.slice A (CA.length + CB.length) cap) (CA ++ CB).length (flatC (CA ++ CB))) := Lib.hid (by rw [List.length_append]; exact OA.out)
          have hft := fits_ok wc w5.heap.size _ (CA ++ CB) OA2.out (fun c hc => by
           rcases List.mem_append.1 hc with h1 | h1
           · exact hfA.ok c h1
           · exact hfB.ok c h1) hkeys (by rw [List.length_append]; have := hfA.len; have := hfB.len; omega)
          have HK := Lib.hid hkeys
          have HFA := Lib.hid hfA
          have HFB := Lib.hid hfB
          have HOS := Lib.hid hovS
          have HCE := Lib.hid (And.intro hCAe hCBe)
          clear hovS T hCAe hCBe hfA hfB hkeys
          by_cases hroom : szs (CA ++ CB) ≤ 239
          · rw [decide_eq_true hroom] at hft
            go_wp2_with fail
            with_reducible refine hft.mono ?_
            rintro e wf ⟨rfl, hbf⟩
            have HRM := Lib.hid hroom
            have CHf := (CHa.out.below hbf)
            have COf := (COa.out.below hbf)
            obtain ⟨nbc, pbc, cnc, cpc, hfc⟩ := CHf.form (by omega)
            obtain ⟨nbo2, pbo2, cno2, cpo2, hfo2⟩ := COf.form (by omega)
            have hblkc := hfc.blk
            have hblko2 := hfo2.blk
            rw [hLl] at hblkc
            rw [hLs] at hblko2
            have cc1 := blk_cell hblkc
            have lc1 := lt_of_block hblkc
            have cc2 := blk_cell hblko2
            have lc2 := lt_of_block hblko2
            have cn1 := hfc.num 0 _ _ hpg0
            have cn2 := hfo2.num 0 _ _ hpgs
            have ln1 := hfc.nl
            have ln2 := hfo2.nl
            have lA0 : (0 : Int) < ((t.at' h).ov.length : Int) + 1 := by omega
            have lS0 : (0 : Int) < ((t.at' SB).ov.length : Int) + 1 := by omega
            obtain ⟨a, b, hsub, hab⟩ := sub_pair t h d EQ.out.1 (by
             have h1 := HDS.out
             have h2 := EQ.out.2.1
             rw [← EQ.out.2.2.2.1]
             omega)
            rw [← EQ.out.2.2.2.1] at hab
            obtain ⟨HN1, hHN1⟩ : ∃ x, x = (t.at' h).n := ⟨_, rfl⟩
            obtain ⟨HN2, hHN2⟩ : ∃ x, x = (t.at' SB).n := ⟨_, rfl⟩
            rw [← hHN1] at cn1
            rw [← hHN2] at cn2
            obtain ⟨BA2, hBA2⟩ : ∃ x : Int, bits .and .i64 BK TOP = x := ⟨_, rfl⟩
            have hBV : BA2 = ((2 ^ d * (h / 2 ^ d % 2) : Nat) : Int) := by rw [← hBA2]; exact HX.out.2.1
            have Bf := Lib.hid hbf
            have HAB := Lib.hid hab
            have HBV := Lib.hid hBV
            have HHN := Lib.hid (And.intro hHN1 hHN2)
            have HSUB := Lib.hid hsub
            clear hbf hft CHf COf hfc hfo2 hblkc hblko2 hab hBV hHN1 hHN2 hsub c1 cc lc lp hroom
            go_upto_region 16 with fail
            go_quiet (fail)
            go_upto_if 117 with fail
            go_cut [15, 16] (fun v15 v16 V => v15 = .int .i64 (a.n : Nat) ∧ v16 = .int .i64 (b.n : Nat) ∧ Hid (Below wf.heap.size wf V))
            case first =>
             obtain ⟨e1, e2⟩ := HHN.out
             rcases HAB.out with ⟨hb, ha1, ha2⟩ | ⟨hb, ha1, ha2⟩
             · have hB0 : ¬ (0 : Int) < BA2 := by rw [HBV.out, hb]; simp
               have hB1 : decide ((0 : Int) < BA2) = false := by simpa using hB0
               have f1 : HN1 = a.n := by rw [e1, ha1]
               have f2 : HN2 = b.n := by rw [e2, ha2]
               have FF := Lib.hid (And.intro f1 f2)
               clear e1 e2 hb ha1 ha2 f1 f2
               go_wp2_with fail
               go_meet
               exact ⟨by rw [FF.out.1], by rw [FF.out.2], Lib.hid (below_drN (Below.refl _ _) _)⟩
             · have hpow : 0 < 2 ^ d := Nat.two_pow_pos d
               have hB0 : (0 : Int) < BA2 := by
                rw [HBV.out, hb, Nat.mul_one]
                exact_mod_cast hpow
               have hB1 : decide ((0 : Int) < BA2) = true := by simpa using hB0
               have f1 : HN1 = b.n := by rw [e1, ha1]
               have f2 : HN2 = a.n := by rw [e2, ha2]
               have FF := Lib.hid (And.intro f1 f2)
               clear e1 e2 hb ha1 ha2 hpow f1 f2
               go_wp2_with fail
               go_meet
               exact ⟨by rw [FF.out.2], by rw [FF.out.1], Lib.hid (below_drN (Below.refl _ _) _)⟩
            case rest =>
             obtain ⟨rfl, rfl, hbel⟩ := hcut
             have hDPe := EQ.out.2.1
             obtain ⟨m, hpm, hsm⟩ := sort_cells (CA ++ CB)
             have hm : m.Perm (a.cs ++ b.cs) := by
              refine hpm.trans ?_
              rw [HCE.out.1, HCE.out.2]
              rcases HAB.out with ⟨_, ha1, ha2⟩ | ⟨_, ha1, ha2⟩
              · rw [ha1, ha2]
              · rw [ha1, ha2]; exact List.perm_append_comm
             have hfm : Fits m := ⟨fun c hc => by
              rcases List.mem_append.1 (hpm.mem_iff.1 hc) with h1 | h1
              · exact HFA.out.ok c h1
              · exact HFB.out.ok c h1, sorted_strict hsm ((hpm.map Cel.key).nodup_iff.2 HK.out), by rw [szs_perm hpm]; exact HRM.out⟩
             have haov : a.ov = [] ∧ b.ov = [] := by
              rcases HAB.out with ⟨_, ha1, ha2⟩ | ⟨_, ha1, ha2⟩
              · exact ⟨by rw [← ha1]; exact HOV.out, by rw [← ha2]; exact HOS.out⟩
              · exact ⟨by rw [← ha2]; exact HOS.out, by rw [← ha1]; exact HOV.out⟩
             obtain ⟨md, mx, hmap⟩ := HST.out.hs.map
             obtain ⟨g1, g2, g3, g4, g5, g6, g7, g8⟩ := HST.out.hs.merge h d EQ.out.1 a b HSUB.out haov.1 haov.2 m hm hfm hmap
             have ht' := entsF_merge D t h d (by have := EQ.out.1; omega) ⟨a.n, m, []⟩
             have hgood := HST.out.hs.tb.good h64
             have har : 2 ≤ a.n := (HST.out.hs.tb.rng a.n (by
              rcases HAB.out with ⟨_, ha1, _⟩ | ⟨_, _, ha2⟩
              · rw [← ha1]; exact numsF_mem (t.at_mem h) (Lf.n_mem _)
              · rw [← ha2]; exact numsF_mem (t.at_mem SB) (Lf.n_mem _))).1
             have hL64 := numsF_len HST.out.hs
             have hlow : h % 2 ^ d < 2 ^ d := Nat.mod_lt _ (Nat.two_pow_pos d)
             have hset := fun V => Dr.good_set hgood d ((h % 2 ^ d : Nat) : Int) (a.n : Nat) (by have := EQ.out.1; omega) (by omega) (by omega) ⟨by omega, by omega⟩ V
             rw [← ht'] at hset
             have hD240 : (Dr.bodyOf (entsF D (t.upd h d (.leaf ⟨a.n, m, []⟩)))).length = 240 := by
              rw [ht']
              exact (hgood.set (y := (a.n : Nat)) ⟨by omega, by omega⟩).isDir.len
             have hfil := fun V base (ho : World.ownsRow V base 33 4 (.slice A (CA.length + CB.length) cap) (CA ++ CB).length (flatC (CA ++ CB))) => filled_ok V base _ _ m d ho hpm hfm
             obtain ⟨PA, hPA⟩ : ∃ p : Pag, p = ⟨3, (d : Nat), 0, bodyF m⟩ := ⟨_, rfl⟩
             obtain ⟨PD, hPD⟩ : ∃ p : Pag, p = dirF D (t.upd h d (.leaf ⟨a.n, m, []⟩)) := ⟨_, rfl⟩
             obtain ⟨S0, hS0⟩ : ∃ Z, Z = str (bodyF m) := ⟨_, rfl⟩
             obtain ⟨ED, hED⟩ : ∃ Z, Z = Dr.bdy (entsF D (t.upd h d (.leaf ⟨a.n, m, []⟩))) := ⟨_, rfl⟩
             have vA : PA.v = .agg #[.int .i64 3, .int .i64 (d : Nat), .int .i64 0, .string S0] := by rw [hPA, hS0]; rfl
             have vD : PD.v = .agg #[.int .i64 1, .int .i64 (D : Nat), .int .i64 0, .string ED] := by rw [hPD, hED]; rfl
             have okA : PA.ok := by rw [hPA]; exact Pag.ok_mk (by omega) (by omega) (by omega) (bodyF_len hfm)
             have okD : PD.ok := by rw [hPD]; exact Pag.ok_mk (by omega) (by omega) (by omega) hD240
             rw [← hPA, ← hPD] at g5 g7
             simp only [Pag.v] at hfil
             rw [← hS0] at hfil
             rw [← hED] at hset
             have hEBe := HEB.out
             rw [← hEBe] at hset
             have hp1 : Hid (∀ V, GV w0 V gb mb sb qb c n pg (tk0 + ((numsF t.leaves).length : Int)) → Calls Tryz.prog 75 #[.pointer (some ⟨gb, 0, none⟩), .int .i64 (a.n : Nat), .agg #[.int .i64 3, .int .i64 (d : Nat), .int .i64 0, .string S0]] V fun e w' => e = .returned (.int .i64 0) ∧ GV w0 w' gb mb sb qb c n (updN pg a.n PA) (tk0 + ((numsF t.leaves).length : Int)) ∧ Wk w0.heap.size gb mb V w') := Lib.hid (fun V hV => by
              have h := hV.putW a.n g4 PA okA
              rw [vA] at h
              exact h)
             have hgv : Hid (∀ V, GV w0 V gb mb sb qb c n (updN pg a.n PA) (tk0 + ((numsF t.leaves).length : Int)) → Calls Tryz.prog 28 #[.pointer (some ⟨gb, 0, none⟩), .int .i64 (b.n : Nat)] V fun e w' => e = .returned (.int .i64 0) ∧ GV w0 w' gb mb sb qb c n (updN (updN pg a.n PA) 1 ⟨2, md, mx, ml.set b.n 2⟩) (tk0 + ((numsF t.leaves).length : Int) - 1) ∧ Wk w0.heap.size gb mb V w') := Lib.hid (fun V hV =>
              hV.giveW (by rw [updN_other _ _ (by omega)]; exact hmap) HST.out.hs.is (by omega) b.n g2 g3 g1)
             have hp0 : Hid (∀ V px tk, GV w0 V gb mb sb qb c n px tk → Calls Tryz.prog 75 #[.pointer (some ⟨gb, 0, none⟩), .int .i64 0, .agg #[.int .i64 1, .int .i64 (D : Nat), .int .i64 0, .string ED]] V fun e w' => e = .returned (.int .i64 0) ∧ GV w0 w' gb mb sb qb c n (updN px 0 PD) tk ∧ Wk w0.heap.size gb mb V w') := Lib.hid (fun V px tk hV => by
              have h := hV.putW 0 (by omega) PD okD
              rw [vD] at h
              exact h)
             have HFIN : Hid (∀ V, GV w0 V gb mb sb qb c n (updN (updN (updN pg a.n PA) 1 ⟨2, md, mx, ml.set b.n 2⟩) 0 PD) (tk0 + ((numsF t.leaves).length : Int) - 1) → V.heap[tb]? = some (tbO gb D ED) → MergePost w0 gb mb sb qb c n D tb pg t ml X tk0 h (.returned (.tuple #[.bool true, .int .i64 0])) V) := Lib.hid (fun V hV hT => by
              refine .inr ⟨rfl, d, a, b, m, _, _, EQ.out.1, HSUB.out, hm, ⟨?_, g5⟩, g6, g7, by rw [← hED]; exact hT⟩
              have e1 : tk0 + ((numsF t.leaves).length : Int) - 1 = tk0 + ((numsF (t.upd h d (.leaf ⟨a.n, m, []⟩)).leaves).length : Int) := by omega
              rw [← e1]
              exact hV)
             have HFil := Lib.hid hfil
             obtain ⟨LB, hLB⟩ : ∃ x : Int, x = ((h % 2 ^ d : Nat) : Int) := ⟨_, rfl⟩
             rw [← hLB] at hset
             obtain ⟨TM, hTM⟩ : ∃ x : Int, wrap64 (TOP - 1) = x := ⟨_, rfl⟩
             have hand2 : bits .and .i64 BK TM = LB := by rw [← hTM, hLB]; exact HX.out.2.2
             have HSet := Lib.hid hset
             have G1 := Lib.hid ((Ga.out.rk Bf.out).rk hbel.out)
             have HT1 := Lib.hid (blk_keep (blk_keep HTa.out Bf.out) hbel.out)
             have OA1 := Lib.hid (own_below (own_below OA2.out Bf.out) hbel.out)
             have K1 := Lib.hid ((Ka.out.below Bf.out).below hbel.out)
             rw [← hEBe] at HT1
             clear g1 g2 g3 g4 g5 g6 g7 g8 hpm hsm hm hfm haov hmap ht' hgood har hL64 hlow hset hD240 hfil hPA hPD hS0 hED vA vD okA okD hEBe hLB hDPe hBA2 cc1 lc1 cc2 lc2 cn1 cn2 ln1 ln2 lA0 lS0 Ga HTa Ka CHa COa Hstop
             go_wp2_with fail
             refine Ra.wp_region_A (S := (Bz wc)) [3, 8] (by kernel_rfl) (below_dr (Below.refl _ _)) (fun hHeld => ?_)
             refine Ra.WT 0 ?_ ?_ ?_
             rotate_left
             · intro wq hSw
               go_simp
               try with_reducible rfl
             try simp only [Act.put, List.getElem_toArray, List.getElem_cons_succ, List.getElem_cons_zero, List.setIfInBounds_toArray, List.set_cons_zero, List.set_cons_succ]
             refine Ra.WT 1 ?_ ?_ ?_
             rotate_left
             · intro wq hSw
               go_simp
               try with_reducible rfl
             try simp only [Act.put, List.getElem_toArray, List.getElem_cons_succ, List.getElem_cons_zero, List.setIfInBounds_toArray, List.set_cons_zero, List.set_cons_succ]
             refine Ra.WT 2 ?_ ?_ ?_
             rotate_left
             · intro wq hSw
               go_simp
               try with_reducible rfl
             try simp only [Act.put, List.getElem_toArray, List.getElem_cons_succ, List.getElem_cons_zero, List.setIfInBounds_toArray, List.set_cons_zero, List.set_cons_succ]
             refine Ra.WT 4 ?_ ?_ ?_
             rotate_left
             · intro wq hSw
               go_simp
               try with_reducible rfl
             try simp only [Act.put, List.getElem_toArray, List.getElem_cons_succ, List.getElem_cons_zero, List.setIfInBounds_toArray, List.set_cons_zero, List.set_cons_succ]
             refine Ra.WT 5 ?_ ?_ ?_
             rotate_left
             · intro wq hSw
               go_simp
               try with_reducible rfl
             try simp only [Act.put, List.getElem_toArray, List.getElem_cons_succ, List.getElem_cons_zero, List.setIfInBounds_toArray, List.set_cons_zero, List.set_cons_succ]
             refine Ra.WT 6 ?_ ?_ ?_
             rotate_left
             · intro wq hSw
               go_simp
               try with_reducible rfl
             try simp only [Act.put, List.getElem_toArray, List.getElem_cons_succ, List.getElem_cons_zero, List.setIfInBounds_toArray, List.set_cons_zero, List.set_cons_succ]
             refine Ra.WT 7 ?_ ?_ ?_
             rotate_left
             · intro wq hSw
               go_simp
               try with_reducible rfl
             try simp only [Act.put, List.getElem_toArray, List.getElem_cons_succ, List.getElem_cons_zero, List.setIfInBounds_toArray, List.set_cons_zero, List.set_cons_succ]
             refine Ra.WA 3 ?_ ?_ hHeld ?_
             rotate_left
             · intro wq hSw
               have hSc := blk_cell (blk_keep HT1.out hSw); have hSl := lt_of_block (blk_keep HT1.out hSw)
               go_simp
               try with_reducible rfl
             try simp only [Act.put, List.getElem_toArray, List.getElem_cons_succ, List.getElem_cons_zero, List.setIfInBounds_toArray, List.set_cons_zero, List.set_cons_succ]
             refine Ra.wpA_ready (rs := [8]) (by kernel_rfl) (by simp) ?_
             refine Ra.AllReadyA.cons rfl (fun K hK => ?_) Ra.AllReadyA.nil
             rw [if_pos (by kernel_rfl)]
             go_simp
             (with_reducible refine (HFil.out _ _ (own_below OA1.out hHeld)).mono ?_)
             rintro e wh ⟨rfl, hbh⟩
             have Hbh := Lib.hid (below_tr hHeld hbh)
             go_simp
             refine hK.out _ _ (below_tr hHeld hbh) (fun hHeld2 => ?_)
             clear hK K
             try clear hHeld
             have hHeld := hHeld2
             try clear hHeld2
             refine Ra.wpA_ready (rs := [9]) (by kernel_rfl) (by simp) ?_
             refine Ra.AllReadyA.late rfl rfl (fun K hK => ?_) Ra.AllReadyA.nil
             rw [if_pos (by kernel_rfl)]
             go_simp
             (with_reducible refine (hp1.out _ (G1.out.rk Hbh.out)).mono ?_)
             rintro e wi ⟨rfl, gi, ki⟩
             have Gi := Lib.hid gi
             have Ki : Hid (Wk w0.heap.size gb mb wc wi) := Lib.hid ((Wk.of_below Hbh.out).trans ki)
             clear gi ki
             go_simp
             refine hK.out _ _ (trivial) (fun hHeld2 => ?_)
             clear hK K
             try clear hHeld
             have hHeld := hHeld2
             try clear hHeld2
             refine Ra.WT 10 ?_ ?_ ?_
             rotate_left
             · intro wq hSw
               go_simp
               try with_reducible rfl
             try simp only [Act.put, List.getElem_toArray, List.getElem_cons_succ, List.getElem_cons_zero, List.setIfInBounds_toArray, List.set_cons_zero, List.set_cons_succ]
             refine Ra.wpA_done (by kernel_rfl) ?_ _
             clear hHeld hbh
             have HTi := Lib.hid (Ki.out.blk HT1.out hge.1 (by omega) (by omega))
             have ct := blk_cell HTi.out
             have lt := lt_of_block HTi.out
             have hgj := hgv.out wi Gi.out
             clear HFil hp1 hgv OA1
             go_wp2_with fail
             with_reducible refine hgj.mono ?_
             rintro e wj ⟨rfl, gj, kj⟩
             have HTj := Lib.hid (kj.blk HTi.out hge.1 (by omega) (by omega))
             have Gj := Lib.hid gj
             have Kj := Lib.hid kj
             have ctj := blk_cell HTj.out
             have ltj := lt_of_block HTj.out
             have hst := HSet.out wj
             clear gj kj ct lt hgj
             go_wp2_with fail
             with_reducible refine hst.mono ?_
             rintro e wk ⟨rfl, hbk⟩
             have y4 := heap_alloc_new wk (pagO 1 D 0 ED)
             have t4 := hal (o := pagO 1 D 0 ED) (blk_keep HTj.out hbk)
             have cy4 := blk_cell y4
             have ly4 := lt_of_block y4
             have ct4 := blk_cell t4
             have ft4 := blk_free t4
             have lt4 := lt_of_block t4
             have hne4 : wk.heap.size ≠ tb := by
              have h1 := lt_of_block HTj.out
              have h2 := hbk.size
              omega
             have KK : Hid (Keep (fun q => q = tb) (wk.alloc (pagO 1 D 0 ED)) (set4o (wk.alloc (pagO 1 D 0 ED)) tb 1 (.int .i64 1) (.int .i64 D) (.int .i64 0) (.string ED))) := Lib.hid (keep_set4o (S := fun q => q = tb) (Keep.refl _ _) (.inl rfl) _ _ _ _)
             have TT := Lib.hid (set4o_same (o := 1) t4 (.int .i64 1) (.int .i64 D) (.int .i64 0) (.string ED))
             have YY := Lib.hid (KK.out.blk y4 hne4)
             have GS := Lib.hid (((Gj.out.rk hbk).rk (below_al (Below.refl _ wk) (pagO 1 D 0 ED))).owns KK.out (fun q hq => by omega))
             have KS : Hid (Ck w0.heap.size gb mb tb W (set4o (wk.alloc (pagO 1 D 0 ED)) tb 1 (.int .i64 1) (.int .i64 D) (.int .i64 0) (.string ED))) := Lib.hid (((((Ck.of_rk K1.out).trans (.of_wk Ki.out)).trans (.of_wk Kj.out)).trans (.of_below (below_al hbk (pagO 1 D 0 ED)))).trans (.of_keep KK.out (fun q hq => by omega)))
             clear ctj ltj hst y4 t4 hbk
             go_wp2_with fail
             clear cy4 ly4 ct4 ft4 lt4
             refine Ra.wp_region_A (S := (Bz (set4o (wk.alloc (pagO 1 D 0 ED)) tb 1 (.int .i64 1) (.int .i64 D) (.int .i64 0) (.string ED)))) [3, 4] (by kernel_rfl) (below_dr (Below.refl _ _)) (fun hHeld => ?_)
             refine Ra.WT 0 ?_ ?_ ?_
             rotate_left
             · intro wq hSw
               go_simp
               try with_reducible rfl
             try simp only [Act.put, List.getElem_toArray, List.getElem_cons_succ, List.getElem_cons_zero, List.setIfInBounds_toArray, List.set_cons_zero, List.set_cons_succ]
             refine Ra.WT 1 ?_ ?_ ?_
             rotate_left
             · intro wq hSw
               go_simp
               try with_reducible rfl
             try simp only [Act.put, List.getElem_toArray, List.getElem_cons_succ, List.getElem_cons_zero, List.setIfInBounds_toArray, List.set_cons_zero, List.set_cons_succ]
             refine Ra.WT 2 ?_ ?_ ?_
             rotate_left
             · intro wq hSw
               go_simp
               try with_reducible rfl
             try simp only [Act.put, List.getElem_toArray, List.getElem_cons_succ, List.getElem_cons_zero, List.setIfInBounds_toArray, List.set_cons_zero, List.set_cons_succ]
             refine Ra.WA 3 ?_ ?_ hHeld ?_
             rotate_left
             · intro wq hSw
               have hSc := blk_cell (blk_keep TT.out hSw); have hSl := lt_of_block (blk_keep TT.out hSw); have hSd := blk_cell (blk_keep YY.out hSw); have hSe := lt_of_block (blk_keep YY.out hSw)
               go_simp
               try with_reducible rfl
             try simp only [Act.put, List.getElem_toArray, List.getElem_cons_succ, List.getElem_cons_zero, List.setIfInBounds_toArray, List.set_cons_zero, List.set_cons_succ]
             refine Ra.WA 4 ?_ ?_ hHeld ?_
             rotate_left
             · intro wq hSw
               have hSc := blk_cell (blk_keep TT.out hSw); have hSl := lt_of_block (blk_keep TT.out hSw); have hSd := blk_cell (blk_keep YY.out hSw); have hSe := lt_of_block (blk_keep YY.out hSw)
               go_simp
               try with_reducible rfl
             try simp only [Act.put, List.getElem_toArray, List.getElem_cons_succ, List.getElem_cons_zero, List.setIfInBounds_toArray, List.set_cons_zero, List.set_cons_succ]
             refine Ra.wpA_ready (rs := [5]) (by kernel_rfl) (by simp) ?_
             refine Ra.AllReadyA.late rfl rfl (fun K hK => ?_) Ra.AllReadyA.nil
             rw [if_pos (by kernel_rfl)]
             go_simp
             (with_reducible refine (hp0.out _ _ _ (GS.out.rk (below_dr (Below.refl _ _)))).mono ?_)
             rintro e wl ⟨rfl, gl, kl⟩
             have Gl := Lib.hid gl
             have Kl := Lib.hid ((Wk.of_below (B := w0.heap.size) (gb := gb) (mb := mb) (below_dr (Below.refl _ (set4o (wk.alloc (pagO 1 D 0 ED)) tb 1 (.int .i64 1) (.int .i64 D) (.int .i64 0) (.string ED))))).trans kl)
             clear gl kl
             go_simp
             refine hK.out _ _ (trivial) (fun hHeld2 => ?_)
             clear hK K
             try clear hHeld
             have hHeld := hHeld2
             try clear hHeld2
             refine Ra.WT 6 ?_ ?_ ?_
             rotate_left
             · intro wq hSw
               go_simp
               try with_reducible rfl
             try simp only [Act.put, List.getElem_toArray, List.getElem_cons_succ, List.getElem_cons_zero, List.setIfInBounds_toArray, List.set_cons_zero, List.set_cons_succ]
             refine Ra.WT 7 ?_ ?_ ?_
             rotate_left
             · intro wq hSw
               go_simp
               try with_reducible rfl
             try simp only [Act.put, List.getElem_toArray, List.getElem_cons_succ, List.getElem_cons_zero, List.setIfInBounds_toArray, List.set_cons_zero, List.set_cons_succ]
             refine Ra.wpA_done (by kernel_rfl) ?_ _
             clear hHeld
             have HP := Lib.hid (And.intro (HFIN.out wl Gl.out (Kl.out.blk TT.out hge.1 (by omega) (by omega))) (KS.out.trans (.of_wk Kl.out)))
             go_wp2_with fail
             go_ret2
             exact HP.out
          · rw [decide_eq_false hroom] at hft
            have HP := Hstop.out (.inr (.inr (by rw [← szs_append]; omega)))
            clear hroom
            go_wp2_with fail
            with_reducible refine hft.mono ?_
            rintro e wf ⟨rfl, hbf⟩
            have HQ := Lib.hid (HP.out wf hbf)
            clear hbf hft
            go_wp2_with fail
            go_ret2
            exact HQ.out
      · have hdb : (DS != DP) = true := by simpa using hdd
        have HP := Hstop.out (.inl hdd)
        go_wp2_with fail
        go_ret2
        exact HP.out _ (Below.refl _ _)
   · have hLL1 : (1 : Int) < (LL : Int) := by
      have := List.length_pos_iff.2 hov
      have := HLL.out
      omega
     have HP : Hid (MergePost w0 gb mb sb qb c n D tb pg t ml X tk0 h (.returned (.tuple #[.bool false, .int .i64 0])) w2 ∧ Ck w0.heap.size gb mb tb W w2) := Lib.hid ⟨.inl ⟨rfl, .inr (.inl hov), ⟨G2.out, HST.out.hs⟩, HT2.out⟩, .of_rk K2.out⟩
     clear hdep hov
     go_wp2_with fail
     go_ret2
     exact HP.out
end Go.Proofs.YtijhamllnnilbaaGreatDoor.Ha
