/- Lemmas of the claim, in their order:
- The contract of hash.Set.
-/
import Derived.Test.YtijhamllnnilbaaGreatDoorR26
import Derived.Deep.LoopGhost
import Derived.Deep.DeepCutAuto
set_option linter.unusedVariables false
set_option linter.unusedSimpArgs false
namespace Go.Proofs.YtijhamllnnilbaaGreatDoor.Ha
open Go.RowKit Go.Proofs.YtijhamllnnilbaaGreatDoor.Mem Go.Proofs.YtijhamllnnilbaaGreatDoor.Pg Go.Proofs.YtijhamllnnilbaaGreatDoor.Kp Go.Proofs.YtijhamllnnilbaaGreatDoor.Sp Go.Proofs.YtijhamllnnilbaaGreatDoor.Gr
set_option linter.unusedSimpArgs false
set_option linter.unusedVariables false
def SplitPost (w0 : World) (gb mb sb qb c n : Nat) (pg : Nat → Pag) (D : Nat) (t : Tri) (ml : List UInt8) (X : List Nat) (tk0 : Int) (h : Nat) (e : Ending) (w' : World) : Prop :=
 (e = .returned (.int .i64 0) ∧ ∃ pg' D' t' ml', St w0 w' gb mb sb qb c n pg' D' t' ml' X tk0 ∧ SplitTri h t t' ∧ (∀ k, lookT t' k = lookT t k) ∧ SameX X pg pg') ∨
 (e = .returned (.int .i64 6) ∧ St w0 w' gb mb sb qb c n pg D t ml X tk0 ∧ takeI 2 ml < 0)
def SplitLaw (w0 : World) (gb mb sb qb c n : Nat) (X : List Nat) (tk0 : Int) (key : List UInt8) : Prop :=
 ∀ (W : World) (C cb tb : Nat) (pg : Nat → Pag) (D : Nat) (t : Tri) (ml : List UInt8), St w0 W gb mb sb qb c n pg D t ml X tk0 → W.heap[tb]? = some (tbO gb D (Dr.bdy (entsF D t))) → C ≤ tb →
  Ch C W cb gb ((t.at' (sumF key)).pags (t.dep (sumF key))) → (w0.heap.size ≤ C ∧ gb < C ∧ mb < C) → (t.at' (sumF key)).ov = [] → t.dep (sumF key) < 5 →
  Calls Tryz.prog 58 #[.pointer (some ⟨tb, 0, none⟩), .pointer (some ⟨cb, 0, none⟩), .string (str key)] W fun e w' =>
   SplitPost w0 gb mb sb qb c n pg D t ml X tk0 (sumF key) e w' ∧ Ck w0.heap.size gb mb C W w'
def SetDeep (D D' : Nat) (x : Cel) (grow : Bool) (t : Tri) : Prop := D' = D ∨ (grow = true ∧ NoFit x ((cutT x.key t).at' (sumF x.key)).pgs)
def SetPost (w0 : World) (gb mb sb qb c n D : Nat) (t : Tri) (X : List Nat) (tk0 : Int) (x : Cel) (grow : Bool) (e : Ending) (w' : World) : Prop :=
 (e = .returned (.int .i64 0) ∧ ∃ pg' D' t' ml', St w0 w' gb mb sb qb c n pg' D' t' ml' X tk0 ∧ SetOk x grow t t' ∧ (∀ k, lookT t' k = if k = x.key then some x else lookT t k) ∧ SetDeep D D' x grow t) ∨
 (e = .returned (.int .i64 6) ∧ ∃ pg' D' t' ml', St w0 w' gb mb sb qb c n pg' D' t' ml' X tk0 ∧ Grown x grow (cutT x.key t) t' ∧ NoFit x (t'.at' (sumF x.key)).pgs ∧ takeI 2 ml' < 0)
def SetPostX (w0 : World) (gb mb sb qb c n : Nat) (pg : Nat → Pag) (D : Nat) (t : Tri) (X : List Nat) (tk0 : Int) (x : Cel) (grow : Bool) (e : Ending) (w' : World) : Prop :=
 (e = .returned (.int .i64 0) ∧ ∃ pg' D' t' ml', St w0 w' gb mb sb qb c n pg' D' t' ml' X tk0 ∧ SetOk x grow t t' ∧ (∀ k, lookT t' k = if k = x.key then some x else lookT t k) ∧ SetDeep D D' x grow t ∧ SameX X pg pg') ∨
 (e = .returned (.int .i64 6) ∧ ∃ pg' D' t' ml', St w0 w' gb mb sb qb c n pg' D' t' ml' X tk0 ∧ Grown x grow (cutT x.key t) t' ∧ NoFit x (t'.at' (sumF x.key)).pgs ∧ takeI 2 ml' < 0)
theorem SetPostX.post {w0 : World} {gb mb sb qb c n : Nat} {pg : Nat → Pag} {D : Nat} {t : Tri} {X : List Nat} {tk0 : Int} {x : Cel} {grow : Bool} {e : Ending} {w' : World} (h : SetPostX w0 gb mb sb qb c n pg D t X tk0 x grow e w') : SetPost w0 gb mb sb qb c n D t X tk0 x grow e w' := by
 rcases h with ⟨h1, pg', D', t', ml', h2, h3, h4, h5, _⟩ | h
 · exact .inl ⟨h1, pg', D', t', ml', h2, h3, h4, h5⟩
 · exact .inr h
structure Rd (w0 w : World) (gb mb sb qb c n D : Nat) (pg0 : Nat → Pag) (t : Tri) (X : List Nat) (tk0 : Int) (x : Cel) (grow : Bool) (bx : Nat) (U1 U2 : ByteArray) (xb xz : Int) (k : Nat) (wr : World) : Prop where
 ex : ∃ pg D' tr ml, St w0 wr gb mb sb qb c n pg D' tr ml X tk0 ∧ (tr = t ∨ Grown x grow (cutT x.key t) tr ∧ (∀ k, lookT tr k = if k = x.key then none else lookT t k) ∧ grow = true ∧ NoFit x ((cutT x.key t).at' (sumF x.key)).pgs) ∧ k + tr.dep (sumF x.key) = 6 ∧ SetDeep D D' x grow t ∧ SameX X pg0 pg
 box : wr.heap[bx]? = some (celO U1 U2 xb xz)
 frm : Wk w0.heap.size gb mb w wr
structure Mid (w0 w wr : World) (gb mb sb qb c n Dd : Nat) (pg0 : Nat → Pag) (t1 : Tri) (mlr : List UInt8) (X : List Nat) (tk0 : Int) (h bx C cb tb : Nat) (U1 U2 : ByteArray) (xb xz : Int) (W : World) : Prop where
 st : ∃ pg1, St w0 W gb mb sb qb c n pg1 Dd t1 mlr X tk0 ∧ SameX X pg0 pg1
 ch : Ch C W cb gb ((t1.at' h).pags (t1.dep h))
 box : W.heap[bx]? = some (celO U1 U2 xb xz)
 tbl : W.heap[tb]? = some (tbO gb Dd (Dr.bdy (entsF Dd t1)))
 frm : Wk w0.heap.size gb mb w W
 sz : C ≤ W.heap.size
theorem entsF_cutT (D : Nat) (k : List UInt8) (t : Tri) : entsF D (cutT k t) = entsF D t := by
 unfold cutT updB
 exact ents_upd D t _ _ (lfOf_n (cutP_nums k _))
set_option maxRecDepth 100000 in
set_option maxHeartbeats 8000000 in
theorem set_okX (w0 w : World) (gb mb sb qb c n D : Nat) (pg : Nat → Pag) (t : Tri) (ml : List UInt8) (X : List Nat) (tk0 : Int) (x : Cel) (grow : Bool) (h : St w0 w gb mb sb qb c n pg D t ml X tk0) (hx : x.ok)
 (hk : -900000 ≤ tk0 ∧ tk0 ≤ 900000) (hsplit : grow = true → SplitLaw w0 gb mb sb qb c n X tk0 x.key) :
 Calls Tryz.prog 18 #[.pointer (some ⟨gb, 0, none⟩), x.v, .bool grow] w fun e w' => SetPostX w0 gb mb sb qb c n pg D t X tk0 x grow e w' ∧ Wk w0.heap.size gb mb w w' := by
 have hrt := fun W => right_any x W
 rw [decide_eq_true hx] at hrt
 have hgb := h.gv.base
 have hgl := h.gv.lt
 have hd5 := h.hs.tb.d5
 have hdh := Nat.le_trans (t.dep_le (sumF x.key)) h.hs.tb.hi
 obtain ⟨U1, hU1⟩ : ∃ U, U = str x.key := ⟨_, rfl⟩
 obtain ⟨U2, hU2⟩ : ∃ U, U = str x.val := ⟨_, rfl⟩
 obtain ⟨xb, hxb⟩ : ∃ b : Int, b = x.blob := ⟨_, rfl⟩
 obtain ⟨xz, hxz⟩ : ∃ b : Int, b = x.size := ⟨_, rfl⟩
 simp only [Cel.v] at hrt ⊢
 rw [← hU1, ← hU2, ← hxb, ← hxz] at hrt ⊢
 have EQ := Lib.hid (And.intro hU1 (And.intro hU2 (And.intro hxb hxz)))
 have B0 := Lib.hid (below_al (Below.refl _ w) (celO U1 U2 xb xz))
 have hz := heap_alloc_new w (celO U1 U2 xb xz)
 have cz := blk_cell hz
 have lz := lt_of_block hz
 have R0 : Hid (Rd w0 w gb mb sb qb c n D pg t X tk0 x grow w.heap.size U1 U2 xb xz (6 - t.dep (sumF x.key)) (w.alloc (celO U1 U2 xb xz))) :=
  Lib.hid ⟨⟨pg, D, t, ml, ⟨h.gv.rk B0.out, h.hs⟩, .inl rfl, by omega, .inl rfl, .refl _ _⟩, hz, .of_below B0.out⟩
 have HX := Lib.hid hx
 have HS := Lib.hid hsplit
 have HK := Lib.hid hk
 have hw0 : w0.heap.size ≤ w.heap.size := by omega
 clear hU1 hU2 hxb hxz h hz hx hsplit hk B0
 go_enter Tryz.func18, Tryz.ntmps18
 go_wp2_with fail
 with_reducible refine (hrt _).mono ?_
 rintro e w1 ⟨rfl, hb1⟩
 have R1 : Hid (Rd w0 w gb mb sb qb c n D pg t X tk0 x grow w.heap.size U1 U2 xb xz (6 - t.dep (sumF x.key)) w1) :=
  Lib.hid ⟨(by
   obtain ⟨pgz, D, tr, ml, h1, h2⟩ := R0.out.ex
   exact ⟨pgz, D, tr, ml, ⟨h1.gv.rk hb1, h1.hs⟩, h2⟩), blk_keep R0.out.box hb1, R0.out.frm.trans (.of_below hb1)⟩
 clear hb1 R0 cz lz hrt
 go_wp2_with fail
 go_loopg [] (6 - t.dep (sumF x.key)) (fun k wr => Hid (Rd w0 w gb mb sb qb c n D pg t X tk0 x grow w.heap.size U1 U2 xb xz k wr))
 case atStart => exact R1
 case round =>
  clear R1
  obtain ⟨pgr, Dr, tr, mlr, hst, htr, hkr, hdr, hxr⟩ := hrel.out.ex
  have HDR := Lib.hid hdr
  have HXR := Lib.hid hxr
  have hwr : w.heap.size < wr.heap.size := lt_of_block hrel.out.box
  have hC : w0.heap.size ≤ wr.heap.size ∧ gb < wr.heap.size ∧ mb < wr.heap.size := by have := hst.gv.lt; omega
  have hm := tr.at_mem (sumF x.key)
  have hlen := (hst.hs.tb.chn hst.gv.n64 (sumF x.key)).len
  have hopen := open_ok w0 wr gb mb sb qb c n Dr pgr _ tr hst.gv hst.hs.tb
  have hbuck := fun W tb hW ht hge => bucket_ok w0 W gb mb sb qb c n Dr tb pgr (tk0 + ((numsF tr.leaves).length : Int)) tr x.key hW hst.hs.tb (by have := HX.out.key.2; omega) ht hge
  have hfind := fun W C cb (hc : Ch C W cb gb ((tr.at' (sumF x.key)).pags (tr.dep (sumF x.key)))) =>
   (cfind_any W C cb gb _ (tr.at' (sumF x.key)).pgs x.key hc (bkL_pags 3 _ (.inl rfl) _ (hst.hs.tb.fits _ hm)) (by unfold Lf.pags; rw [pagsF_len]; exact Nat.succ_pos _) (by unfold Lf.pags; rw [pagsF_len]; omega)).mono (fun e w' ⟨h1, h2⟩ => And.intro (h1.res (hst.hs.tb.fits _ hm) (hst.hs.tb.keys _ hm)) h2)
  rw [← EQ.out.1] at hbuck hfind
  have Z0 := Lib.hid hrel.out.box
  have cz := blk_cell Z0.out
  have lz := hwr
  have K0 := Lib.hid hrel.out.frm
  have ST := Lib.hid hst
  have HTR := Lib.hid htr
  have HKR := Lib.hid hkr
  have HB := Lib.hid hbuck
  have HF := Lib.hid hfind
  clear hrel hst htr hkr hdr hxr hm hbuck hfind
  go_wp2_with fail
  with_reducible refine hopen.mono ?_
  rintro e w2 ⟨tb, rfl, htb, ht, g2, k2⟩
  have hbk := HB.out w2 tb g2 ht (by omega)
  have z2 := k2.blk Z0.out hw0
  have cz2 := blk_cell z2
  have lz2 := lt_of_block z2
  have Z2 := Lib.hid z2
  have HT := Lib.hid ht
  have K2 := Lib.hid k2
  clear g2 k2 ht z2 hopen cz lz
  go_wp2_with fail
  with_reducible refine hbk.mono ?_
  rintro e w3 ⟨cb, rfl, hch, g3, k3⟩
  have hfd := HF.out w3 _ cb hch
  have z3 := k3.blk Z2.out hw0
  have cz3 := blk_cell z3
  have lz3 := lt_of_block z3
  have Z3 := Lib.hid z3
  have HT3 := Lib.hid (k3.blk HT.out (by omega))
  have CH3 := Lib.hid hch
  have hC2 := K2.out.size
  have htb2 := lt_of_block HT.out
  have G3 := Lib.hid g3
  have K3 := Lib.hid (K2.out.trans k3)
  clear g3 k3 hch hbk z3 cz2 lz2 Z2 K2 HT
  go_wp2_with fail
  with_reducible refine hfd.mono ?_
  rintro e w4 ⟨hres, hb4⟩
  have z4 := blk_keep Z3.out hb4
  have Z4 := Lib.hid z4
  have HT4 := Lib.hid (blk_keep HT3.out hb4)
  have CH4 := Lib.hid (CH3.out.below hb4)
  have G4 := Lib.hid (G3.out.rk hb4)
  have K4 := Lib.hid (K3.out.below hb4)
  clear hb4 hfd z4 cz3 lz3 Z3 K3 G3 CH3 HT3
  have hgen : ∃ (z : Int) (a1 a2 : ByteArray) (a3 a4 : Int), e = .returned (.tuple #[.int .i64 z, .agg #[.string a1, .string a2, .int .i64 a3, .int .i64 a4]]) ∧
   Hid ((∃ (j m : Nat) (cs : List Cel), z = (j : Int) ∧ (tr.at' (sumF x.key)).pgs[j]? = some (m, cs) ∧ has x.key cs) ∨ (z = -1 ∧ ¬ has x.key (tr.at' (sumF x.key)).cells)) := by
   rcases hres with ⟨j, m, cs, y, hj, hh, _, _, rfl⟩ | ⟨hno, _, rfl⟩
   · exact ⟨_, _, _, _, _, rfl, Lib.hid (.inl ⟨j, m, cs, rfl, hj, hh⟩)⟩
   · exact ⟨_, _, _, _, _, rfl, Lib.hid (.inr ⟨rfl, hno⟩)⟩
  obtain ⟨z, a1, a2, a3, a4, rfl, HZ⟩ := hgen
  clear hres
  have z5 := hal (o := celO a1 a2 a3 a4) Z4.out
  have Z5 := Lib.hid z5
  have HT5 := Lib.hid (hal (o := celO a1 a2 a3 a4) HT4.out)
  have CH5 := Lib.hid (CH4.out.below (below_al (Below.refl _ w4) (celO a1 a2 a3 a4)))
  have G5 := Lib.hid (G4.out.rk (below_al (Below.refl _ w4) (celO a1 a2 a3 a4)))
  have K5 := Lib.hid (K4.out.below (below_al (Below.refl _ w4) (celO a1 a2 a3 a4)))
  clear z5 Z4 HT4 CH4 G4 K4
  go_upto_if 47 with fail
  go_cut [] (fun W => Hid (Mid w0 w wr gb mb sb qb c n Dr pg (cutT x.key tr) mlr X tk0 (sumF x.key) w.heap.size w2.heap.size cb tb U1 U2 xb xz W))
  case first =>
   generalize hw5 : w4.alloc (celO a1 a2 a3 a4) = w5 at *
   clear hw5
   have hF : Wk w0.heap.size gb mb w w5 := K0.out.trans (.of_rk K5.out)
   rcases HZ.out with ⟨j, m, cs, rfl, hj, hh⟩ | ⟨rfl, hno⟩
   · have hjl : j < (tr.at' (sumF x.key)).pgs.length := (List.getElem?_eq_some_iff.1 hj).1
     have hLlen : ((tr.at' (sumF x.key)).pags (tr.dep (sumF x.key))).length = (tr.at' (sumF x.key)).pgs.length := by unfold Lf.pags; exact pagsF_len ..
     obtain ⟨⟨m', q⟩, hq⟩ : ∃ q, ((tr.at' (sumF x.key)).pags (tr.dep (sumF x.key)))[j]? = some q := ⟨_, List.getElem?_eq_getElem (by omega)⟩
     have hbkl := bkL_pags 3 (tr.dep (sumF x.key) : Nat) (.inl rfl) (tr.at' (sumF x.key)).pgs (ST.out.hs.tb.fits _ (tr.at_mem _))
     obtain ⟨cs', hj', hbk⟩ := hbkl.at' j m' q hq
     rw [hj] at hj'
     injection hj' with hj'
     injection hj' with h1 h2
     subst h1 h2
     obtain ⟨k1, d1, x1, T1, e1, hwr⟩ := withRes_form q (ins x cs)
     have hset := fun W => bset_any q cs x hbk HX.out W
     rw [hwr] at hset
     have HQ := Lib.hid hq
     have HJ := Lib.hid hj
     have HBK := Lib.hid hbk
     have HWR := Lib.hid hwr
     obtain ⟨nb, pb, cn, cp, hf⟩ := CH5.out.form (by omega)
     obtain ⟨c0, c1, c2, c3⟩ := hf.pag j m q hq
     have lp := hf.pl
     have HCB := Lib.hid hf.blk
     have hjI : (j : Int) < (((tr.at' (sumF x.key)).pags (tr.dep (sumF x.key))).length : Int) := by omega
     obtain ⟨qk, qd, qx, ql⟩ := q
     simp only [Pag.v, Cel.v] at hset
     simp only at c0 c1 c2 c3
     obtain ⟨S, hS⟩ : ∃ S, S = str ql := ⟨_, rfl⟩
     rw [← hS] at hset c3
     rw [← EQ.out.1, ← EQ.out.2.1, ← EQ.out.2.2.1, ← EQ.out.2.2.2] at hset
     obtain ⟨LL, hLL⟩ : ∃ LL, LL = (tr.at' (sumF x.key)).pags (tr.dep (sumF x.key)) := ⟨_, rfl⟩
     have hLL2 := Lib.hid hLL
     rw [← hLL] at HCB CH5 HQ hjI hLlen
     clear hq hj hbk hwr hS hbkl hf hLL
     go_upto_region 11 with fail
     go_cut [12, 13] (fun v12 v13 W => ∃ bq : Nat, v12 = .pointer (some ⟨bq, 0, none⟩) ∧ v13 = .int .i64 e1 ∧ Hid (W.heap[bq]? = some (pagO k1 d1 x1 T1)) ∧ Hid (Below w5.heap.size w5 W))
     case first =>
      refine wp_region_held_drew (S := (Bz w5)) (by kernel_rfl) (below_dr (Below.refl _ _)) (fun hHeld => ?_)
      refine Ra.W 0 ?_ ?_ hHeld ?_
      rotate_left
      · intro wq hSw
        go_simp
        try with_reducible rfl
      try simp only [Act.put, List.getElem_toArray, List.getElem_cons_succ, List.getElem_cons_zero, List.setIfInBounds_toArray, List.set_cons_zero, List.set_cons_succ]
      refine Ra.W 1 ?_ ?_ hHeld ?_
      rotate_left
      · intro wq hSw
        go_simp
        try with_reducible rfl
      try simp only [Act.put, List.getElem_toArray, List.getElem_cons_succ, List.getElem_cons_zero, List.setIfInBounds_toArray, List.set_cons_zero, List.set_cons_succ]
      refine Ra.W 2 ?_ ?_ hHeld ?_
      rotate_left
      · intro wq hSw
        go_simp
        try with_reducible rfl
      try simp only [Act.put, List.getElem_toArray, List.getElem_cons_succ, List.getElem_cons_zero, List.setIfInBounds_toArray, List.set_cons_zero, List.set_cons_succ]
      refine Ra.W 3 ?_ ?_ hHeld ?_
      rotate_left
      · intro wq hSw
        have hSc := blk_cell (blk_keep HCB.out hSw); have hSl := lt_of_block (blk_keep HCB.out hSw); have hSd := blk_cell (blk_keep Z5.out hSw); have hSe := lt_of_block (blk_keep Z5.out hSw); have hp0 := (Below.cell hSw (p := ⟨pb, j * 4, none⟩) lp).trans c0; have hp1 := (Below.cell hSw (p := ⟨pb, j * 4 + 1, none⟩) lp).trans c1; have hp2 := (Below.cell hSw (p := ⟨pb, j * 4 + 2, none⟩) lp).trans c2; have hp3 := (Below.cell hSw (p := ⟨pb, j * 4 + 3, none⟩) lp).trans c3; have hp5 := Nat.lt_of_lt_of_le lp (Below.size hSw)
        go_simp
        try with_reducible rfl
      try simp only [Act.put, List.getElem_toArray, List.getElem_cons_succ, List.getElem_cons_zero, List.setIfInBounds_toArray, List.set_cons_zero, List.set_cons_succ]
      refine Ra.W 4 ?_ ?_ hHeld ?_
      rotate_left
      · intro wq hSw
        go_simp
        try with_reducible rfl
      try simp only [Act.put, List.getElem_toArray, List.getElem_cons_succ, List.getElem_cons_zero, List.setIfInBounds_toArray, List.set_cons_zero, List.set_cons_succ]
      refine Ra.W 5 ?_ ?_ hHeld ?_
      rotate_left
      · intro wq hSw
        have hSc := blk_cell (blk_keep HCB.out hSw); have hSl := lt_of_block (blk_keep HCB.out hSw); have hSd := blk_cell (blk_keep Z5.out hSw); have hSe := lt_of_block (blk_keep Z5.out hSw); have hp0 := (Below.cell hSw (p := ⟨pb, j * 4, none⟩) lp).trans c0; have hp1 := (Below.cell hSw (p := ⟨pb, j * 4 + 1, none⟩) lp).trans c1; have hp2 := (Below.cell hSw (p := ⟨pb, j * 4 + 2, none⟩) lp).trans c2; have hp3 := (Below.cell hSw (p := ⟨pb, j * 4 + 3, none⟩) lp).trans c3; have hp5 := Nat.lt_of_lt_of_le lp (Below.size hSw)
        go_simp
        try rw [if_neg (by omega)]
        try rw [if_pos (by omega)]
        try with_reducible rfl
      try simp only [Act.put, List.getElem_toArray, List.getElem_cons_succ, List.getElem_cons_zero, List.setIfInBounds_toArray, List.set_cons_zero, List.set_cons_succ]
      refine Ra.W 6 ?_ ?_ hHeld ?_
      rotate_left
      · intro wq hSw
        have hSc := blk_cell (blk_keep HCB.out hSw); have hSl := lt_of_block (blk_keep HCB.out hSw); have hSd := blk_cell (blk_keep Z5.out hSw); have hSe := lt_of_block (blk_keep Z5.out hSw); have hp0 := (Below.cell hSw (p := ⟨pb, j * 4, none⟩) lp).trans c0; have hp1 := (Below.cell hSw (p := ⟨pb, j * 4 + 1, none⟩) lp).trans c1; have hp2 := (Below.cell hSw (p := ⟨pb, j * 4 + 2, none⟩) lp).trans c2; have hp3 := (Below.cell hSw (p := ⟨pb, j * 4 + 3, none⟩) lp).trans c3; have hp5 := Nat.lt_of_lt_of_le lp (Below.size hSw)
        go_simp
        try with_reducible rfl
      try simp only [Act.put, List.getElem_toArray, List.getElem_cons_succ, List.getElem_cons_zero, List.setIfInBounds_toArray, List.set_cons_zero, List.set_cons_succ]
      refine Ra.W 7 ?_ ?_ hHeld ?_
      rotate_left
      · intro wq hSw
        have hSc := blk_cell (blk_keep HCB.out hSw); have hSl := lt_of_block (blk_keep HCB.out hSw); have hSd := blk_cell (blk_keep Z5.out hSw); have hSe := lt_of_block (blk_keep Z5.out hSw); have hp0 := (Below.cell hSw (p := ⟨pb, j * 4, none⟩) lp).trans c0; have hp1 := (Below.cell hSw (p := ⟨pb, j * 4 + 1, none⟩) lp).trans c1; have hp2 := (Below.cell hSw (p := ⟨pb, j * 4 + 2, none⟩) lp).trans c2; have hp3 := (Below.cell hSw (p := ⟨pb, j * 4 + 3, none⟩) lp).trans c3; have hp5 := Nat.lt_of_lt_of_le lp (Below.size hSw)
        go_simp
        try with_reducible rfl
      try simp only [Act.put, List.getElem_toArray, List.getElem_cons_succ, List.getElem_cons_zero, List.setIfInBounds_toArray, List.set_cons_zero, List.set_cons_succ]
      refine wpAnyH_ready (rs := [8, 12]) (by kernel_rfl) (by simp) ?_
      refine AllReadyH.cons rfl (fun K hK => ?_) (AllReadyH.cons rfl (fun K hK => ?_) AllReadyH.nil)
      · rw [if_pos (by kernel_rfl)]
        go_simp
        (with_reducible refine (hset _).mono ?_)
        rintro e w6 ⟨rfl, hb6⟩
        have H6 := below_tr hHeld hb6
        try have zz6 := blk_keep (w := (w5.alloc zpO).drew) (heap_alloc_new w5 zpO) hb6
        try have lz6 := lt_of_block zz6
        try have fz6 := blk_free zz6
        try have cz6 := blk_cell zz6
        go_simp
        refine hK.out _ _ (below_tr hHeld hb6) (fun hHeld2 => ?_)
        clear hK K
        try clear hHeld
        have hHeld := hHeld2
        try clear hHeld2
        refine Ra.W 9 ?_ ?_ hHeld ?_
        rotate_left
        · intro wq hSw
          go_simp
          try with_reducible rfl
        try simp only [Act.put, List.getElem_toArray, List.getElem_cons_succ, List.getElem_cons_zero, List.setIfInBounds_toArray, List.set_cons_zero, List.set_cons_succ]
        refine Ra.W 10 ?_ ?_ hHeld ?_
        rotate_left
        · intro wq hSw
          go_simp
          try with_reducible rfl
        try simp only [Act.put, List.getElem_toArray, List.getElem_cons_succ, List.getElem_cons_zero, List.setIfInBounds_toArray, List.set_cons_zero, List.set_cons_succ]
        refine Ra.W 11 ?_ ?_ hHeld ?_
        rotate_left
        · intro wq hSw
          go_simp
          try with_reducible rfl
        try simp only [Act.put, List.getElem_toArray, List.getElem_cons_succ, List.getElem_cons_zero, List.setIfInBounds_toArray, List.set_cons_zero, List.set_cons_succ]
        refine wpAnyH_ready (rs := [12]) (by kernel_rfl) (by simp) ?_
        refine AllReadyH.cons rfl (fun K hK => ?_) AllReadyH.nil
        rw [if_pos (by kernel_rfl)]
        go_simp
        skip
        refine hK.out _ _ (below_al hHeld _) (fun hHeld2 => ?_)
        clear hK K
        try clear hHeld
        have hHeld := hHeld2
        try clear hHeld2
        refine wpAnyH_ready (rs := [13]) (by kernel_rfl) (by simp) ?_
        refine AllReadyH.cons rfl (fun K hK => ?_) AllReadyH.nil
        rw [if_pos (by kernel_rfl)]
        go_simp
        skip
        refine hK.out _ _ ((by first | with_reducible exact below_al H6 _ | with_reducible exact below_set4 hHeld (Nat.le_refl _) _ _ _ _)) (fun hHeld2 => ?_)
        clear hK K
        try clear hHeld
        have hHeld := hHeld2
        try clear hHeld2
        refine Ra.W 14 ?_ ?_ hHeld ?_
        rotate_left
        · intro wq hSw
          go_simp
          try with_reducible rfl
        try simp only [Act.put, List.getElem_toArray, List.getElem_cons_succ, List.getElem_cons_zero, List.setIfInBounds_toArray, List.set_cons_zero, List.set_cons_succ]
        refine wpAnyH_done (by kernel_rfl) ?_ _
        (first | have zz7 := set4_same zz6 (.int .i64 k1) (.int .i64 d1) (.int .i64 x1) (.string T1) | have zz7 := heap_alloc_new w6 (pagO k1 d1 x1 T1))
        have HB7 := Lib.hid hHeld
        have ZZ7 := Lib.hid zz7
        clear hHeld zz7
        go_wp2_with fail
        go_meet
        exact ⟨_, rfl, rfl, ZZ7, HB7⟩
      · rw [if_pos (by kernel_rfl)]
        go_simp
        skip
        refine hK.out _ _ (below_al hHeld _) (fun hHeld2 => ?_)
        clear hK K
        try clear hHeld
        have hHeld := hHeld2
        try clear hHeld2
        refine wpAnyH_ready (rs := [8]) (by kernel_rfl) (by simp) ?_
        refine AllReadyH.cons rfl (fun K hK => ?_) AllReadyH.nil
        rw [if_pos (by kernel_rfl)]
        go_simp
        (with_reducible refine (hset _).mono ?_)
        rintro e w6 ⟨rfl, hb6⟩
        have H6 := below_tr hHeld hb6
        try have zz6 := blk_keep (w := (w5.alloc zpO).drew) (heap_alloc_new w5 zpO) hb6
        try have lz6 := lt_of_block zz6
        try have fz6 := blk_free zz6
        try have cz6 := blk_cell zz6
        go_simp
        refine hK.out _ _ (below_tr hHeld hb6) (fun hHeld2 => ?_)
        clear hK K
        try clear hHeld
        have hHeld := hHeld2
        try clear hHeld2
        refine Ra.W 9 ?_ ?_ hHeld ?_
        rotate_left
        · intro wq hSw
          go_simp
          try with_reducible rfl
        try simp only [Act.put, List.getElem_toArray, List.getElem_cons_succ, List.getElem_cons_zero, List.setIfInBounds_toArray, List.set_cons_zero, List.set_cons_succ]
        refine Ra.W 10 ?_ ?_ hHeld ?_
        rotate_left
        · intro wq hSw
          go_simp
          try with_reducible rfl
        try simp only [Act.put, List.getElem_toArray, List.getElem_cons_succ, List.getElem_cons_zero, List.setIfInBounds_toArray, List.set_cons_zero, List.set_cons_succ]
        refine Ra.W 11 ?_ ?_ hHeld ?_
        rotate_left
        · intro wq hSw
          go_simp
          try with_reducible rfl
        try simp only [Act.put, List.getElem_toArray, List.getElem_cons_succ, List.getElem_cons_zero, List.setIfInBounds_toArray, List.set_cons_zero, List.set_cons_succ]
        refine wpAnyH_ready (rs := [13]) (by kernel_rfl) (by simp) ?_
        refine AllReadyH.cons rfl (fun K hK => ?_) AllReadyH.nil
        rw [if_pos (by kernel_rfl)]
        go_simp
        skip
        refine hK.out _ _ ((by first | with_reducible exact below_al H6 _ | with_reducible exact below_set4 hHeld (Nat.le_refl _) _ _ _ _)) (fun hHeld2 => ?_)
        clear hK K
        try clear hHeld
        have hHeld := hHeld2
        try clear hHeld2
        refine Ra.W 14 ?_ ?_ hHeld ?_
        rotate_left
        · intro wq hSw
          go_simp
          try with_reducible rfl
        try simp only [Act.put, List.getElem_toArray, List.getElem_cons_succ, List.getElem_cons_zero, List.setIfInBounds_toArray, List.set_cons_zero, List.set_cons_succ]
        refine wpAnyH_done (by kernel_rfl) ?_ _
        (first | have zz7 := set4_same zz6 (.int .i64 k1) (.int .i64 d1) (.int .i64 x1) (.string T1) | have zz7 := heap_alloc_new w6 (pagO k1 d1 x1 T1))
        have HB7 := Lib.hid hHeld
        have ZZ7 := Lib.hid zz7
        clear hHeld zz7
        go_wp2_with fail
        go_meet
        exact ⟨_, rfl, rfl, ZZ7, HB7⟩
     case rest =>
      obtain ⟨bq, rfl, rfl, hpg, hbl⟩ := hcut
      have cq := blk_cell hpg.out
      have lq := lt_of_block hpg.out
      have G6 := Lib.hid (G5.out.rk hbl.out)
      have CH6 := Lib.hid (CH5.out.below hbl.out)
      have hmn : m < n := (ST.out.hs.tb.rng m (numsF_mem (tr.at_mem (sumF x.key)) (List.mem_map.2 ⟨(m, cs), List.mem_of_getElem? HJ.out, rfl⟩))).2
      have hqok : Pag.ok ⟨qk, qd, qx, ql⟩ := by
       have h1 := ST.out.hs.tb.shown (sumF x.key) _ (List.mem_of_getElem? (hLL2.out ▸ HQ.out))
       simp only at h1
       rw [← h1]
       exact G6.out.ok hmn
      by_cases hfit : szs (ins x cs) ≤ 239
      · have he := HWR.out
        simp only [withRes, if_pos hfit, Pag.v, Ending.returned.injEq, Value.tuple.injEq, Array.mk.injEq, List.cons.injEq, Value.agg.injEq, Value.int.injEq, Value.string.injEq, true_and, and_true] at he
        obtain ⟨⟨rfl, rfl, rfl, rfl⟩, rfl⟩ := he
        have hput := cput_ok w0 wc gb mb sb qb c n cb w2.heap.size j m pgr (tk0 + ((numsF tr.leaves).length : Int)) LL (pagC ⟨qk, qd, qx, ql⟩ (ins x cs)) ⟨qk, qd, qx, ql⟩ G6.out CH6.out (by omega) HQ.out hmn (pagC_ok hqok (HBK.out.fits.ins HX.out hfit)) (by omega)
        simp only [Pag.v, pagC] at hput
        obtain ⟨T, hT⟩ : ∃ T, T = str (bodyF (ins x cs)) := ⟨_, rfl⟩
        rw [← hT] at hput cq hpg
        have HFT := Lib.hid hfit
        clear hfit hqok hT
        go_wp2_with fail
        with_reducible refine hput.mono ?_
        rintro e w8 ⟨rfl, hch8, hg8, hk8⟩
        have htr : tr = t := by
         rcases HTR.out with h1 | ⟨_, h1, _⟩
         · exact h1
         · exact absurd hh (fun ⟨y, hy1, hy2⟩ => by
            have h2 := h1 x.key
            rw [if_pos rfl] at h2
            exact has_iff_look.1 ⟨y, has_cells HJ.out hy1, hy2⟩ h2)
        have hrep := ST.out.hs.repl x HX.out j m ⟨qk, qd, qx, ql⟩ cs HJ.out (by rw [← hLL2.out]; exact HQ.out) hh HFT.out
        have HP : Hid (SetPostX w0 gb mb sb qb c n pg D t X tk0 x grow (.returned (.int .i64 0)) w8 ∧ Wk w0.heap.size gb mb w w8) := Lib.hid ⟨.inl ⟨rfl, _, Dr, _, mlr, set_st (set_len' _ _ _ _) hrep.1 hg8, by rw [← htr]; exact .inl ⟨j, m, cs, HJ.out, hh, HFT.out, rfl⟩, by rw [← htr]; exact hrep.2, HDR.out, HXR.out.upd (ST.out.hs.tabX (hLL2.out ▸ HQ.out)) _⟩, hF.ck (Ck.trans (.of_below hbl.out) (hk8.mono (by omega)))⟩
        clear hch8 hg8 hk8 htr hrep
        go_wp2_with fail
        go_ret
        exact HP.out
      · have he := HWR.out
        simp only [withRes, if_neg hfit, Ending.returned.injEq, Value.tuple.injEq, Array.mk.injEq, List.cons.injEq, Value.agg.injEq, Value.int.injEq, Value.string.injEq, true_and, and_true] at he
        obtain ⟨⟨rfl, rfl, rfl, rfl⟩, rfl⟩ := he
        have hcu := ccut_ok w0 wc gb mb sb qb c n cb w2.heap.size j m pgr (tk0 + ((numsF tr.leaves).length : Int)) LL ⟨qk, qd, qx, ql⟩ cs x.key G6.out CH6.out (by omega) HQ.out HBK.out hh (by omega) hmn hqok
        rw [← EQ.out.1] at hcu
        have z6 := blk_keep Z5.out hbl.out
        have cz6 := blk_cell z6
        have lz6 := lt_of_block z6
        have Z6 := Lib.hid z6
        have HT6 := Lib.hid (blk_keep HT5.out hbl.out)
        clear hfit hqok z6
        go_wp2_with fail
        with_reducible refine hcu.mono ?_
        rintro e w8 ⟨rfl, hch8, hg8, hk8, hp8⟩
        have hcp := ST.out.hs.cut x.key j m ⟨qk, qd, qx, ql⟩ cs HJ.out (by rw [← hLL2.out]; exact HQ.out) hh
        have hat := cutT_at x.key tr
        have hself := at_upd_self tr (sumF x.key) (lfOf (cutP x.key (tr.at' (sumF x.key)).pgs))
        have HM := Lib.hid (show Mid w0 w wr gb mb sb qb c n Dr pg (cutT x.key tr) mlr X tk0 (sumF x.key) w.heap.size w2.heap.size cb tb U1 U2 xb xz w8 from
         ⟨⟨_, set_st (cutT_len _ _) hcp.1 hg8, HXR.out.upd (ST.out.hs.tabX (hLL2.out ▸ HQ.out)) _⟩, by rw [hat.2, show (cutT x.key tr).at' (sumF x.key) = _ from hself.1, hcp.2, ← hLL2.out]; exact hch8, hp8.blk CH6.out (by omega) Z6.out (by omega) (by omega) (by omega), by rw [entsF_cutT]; exact hp8.blk CH6.out (by omega) HT6.out (by omega) (by omega) (by omega), hF.ck (Ck.trans (.of_below hbl.out) (hk8.mono (by omega))), by have := hbl.out.size; have := hk8.size; have := CH5.out.base; have := CH5.out.lt; omega⟩)
        clear hch8 hg8 hk8 hp8 hcp hat hself
        go_wp2_with fail
        go_meet
        exact HM
   · have hct := cutT_none hno
     have HM := Lib.hid (show Mid w0 w wr gb mb sb qb c n Dr pg (cutT x.key tr) mlr X tk0 (sumF x.key) w.heap.size w2.heap.size cb tb U1 U2 xb xz w5 from by
      rw [hct]
      exact ⟨⟨pgr, ⟨G5.out, ST.out.hs⟩, HXR.out⟩, CH5.out, Z5.out, HT5.out, hF, Nat.le_trans CH5.out.base (Nat.le_of_lt CH5.out.lt)⟩)
     clear hno hct hF
     go_wp2_with fail
     go_meet
     exact HM
  case rest =>
   obtain ⟨⟨pg1, st1, hx1⟩, ch1, box1, tbl1, frm1, sz1⟩ := hcut.out
   have HX1 := Lib.hid hx1
   clear hx1
   have hg1 := st1.gv.lt
   have hno := cutT_has x.key tr
   have hat := cutT_at x.key tr
   have hrel1 : Grown x grow (cutT x.key t) (cutT x.key tr) ∧ ∀ k, lookT (cutT x.key tr) k = if k = x.key then none else lookT t k := by
    rcases HTR.out with h1 | ⟨h1, h2, _⟩
    · subst h1
      exact ⟨.refl _, look_cutT ST.out.hs x.key⟩
    · have h3 : ¬ has x.key (tr.at' (sumF x.key)).cells := fun h => has_iff_look.1 h (by have := h2 x.key; rw [if_pos rfl] at this; exact this)
      rw [cutT_none h3]
      exact ⟨h1, h2⟩
   have hdep1 := hat.2
   have hbig : NoFit x ((cutT x.key tr).at' (sumF x.key)).pgs → NoFit x ((cutT x.key t).at' (sumF x.key)).pgs := by
    rcases HTR.out with h1 | ⟨_, _, _, h3⟩
    · subst h1
      exact fun h => h
    · exact fun _ => h3
   obtain ⟨t1, ht1⟩ : ∃ t1, t1 = cutT x.key tr := ⟨_, rfl⟩
   rw [← ht1] at st1 ch1 tbl1 hno hrel1 hdep1 hbig
   have HBIG := Lib.hid hbig
   clear ht1 hat hcut hbig
   have hm1 := t1.at_mem (sumF x.key)
   have hlen1 := (st1.hs.tb.chn st1.gv.n64 (sumF x.key)).len
   have hLl : ((t1.at' (sumF x.key)).pags (t1.dep (sumF x.key))).length = (t1.at' (sumF x.key)).pgs.length := by unfold Lf.pags; exact pagsF_len ..
   have hpos : 0 < (t1.at' (sumF x.key)).pgs.length := Nat.succ_pos _
   have hbk1 := bkL_pags 3 (t1.dep (sumF x.key) : Nat) (.inl rfl) (t1.at' (sumF x.key)).pgs (st1.hs.tb.fits _ hm1)
   have hqm : ∀ (i m : Nat) (q : Pag), ((t1.at' (sumF x.key)).pags (t1.dep (sumF x.key)))[i]? = some (m, q) → m < n ∧ q.ok := fun i m q hq => by
    have h0 := congrArg (Option.map (·.1)) hq
    rw [← List.getElem?_map] at h0
    unfold Lf.pags at h0
    rw [pagsF_nums] at h0
    have h1 := st1.hs.tb.rng m (numsF_mem hm1 (List.mem_of_getElem? h0))
    have h2 := st1.hs.tb.shown (sumF x.key) _ (List.mem_of_getElem? hq)
    exact ⟨h1.2, by simp only at h2; rw [← h2]; exact st1.gv.ok h1.2⟩
   have hfit := cfit_ok w0 wc gb mb sb qb c n cb w2.heap.size pg1 _ ((t1.at' (sumF x.key)).pags (t1.dep (sumF x.key))) (t1.at' (sumF x.key)).pgs x st1.gv ch1 (by omega) hbk1 HX.out (by omega) (by omega) hqm
   have hp0 : ((t1.at' (sumF x.key)).pags (t1.dep (sumF x.key)))[0]? = some ((t1.at' (sumF x.key)).n, ⟨3, (t1.dep (sumF x.key) : Nat), (nextF (t1.at' (sumF x.key)).ov : Nat), bodyF (t1.at' (sumF x.key)).cs⟩) := rfl
   have hmore : ∀ W, Below wc.heap.size wc W → NoFit x (t1.at' (sumF x.key)).pgs → (grow = false ∨ 5 ≤ t1.dep (sumF x.key) ∨ (t1.at' (sumF x.key)).ov ≠ []) →
    Calls Tryz.prog 57 #[.pointer (some ⟨cb, 0, none⟩), x.v] W fun e w' => ∃ z, e = .returned (.int .i64 z) ∧ Hid (SetPostX w0 gb mb sb qb c n pg D t X tk0 x grow (.returned (.int .i64 z)) w' ∧ Wk w0.heap.size gb mb w w') := fun W hW hnf hcond => by
    obtain ⟨md, mx, hmap⟩ := st1.hs.map
    have hL64 := numsF_len st1.hs
    have hK := HK.out
    rcases takeI_map st1.hs.is with ⟨h1, _⟩ | ⟨i, h1, _, h3, _, _⟩
    · refine (cmore_no w0 W gb mb sb qb c n cb w2.heap.size pg1 _ _ x (st1.gv.rk hW) (ch1.below hW) (by omega) hmap st1.hs.is (by omega)).mono ?_
      rintro e w' ⟨rfl, hg, hk⟩
      exact ⟨6, rfl, Lib.hid ⟨.inr ⟨rfl, pg1, Dr, t1, mlr, ⟨hg, st1.hs⟩, hrel1.1, hnf, by omega⟩, frm1.ck (Ck.trans (.of_below hW) (.of_rk hk))⟩⟩
    · obtain ⟨⟨m, q⟩, hq⟩ : ∃ q, ((t1.at' (sumF x.key)).pags (t1.dep (sumF x.key)))[(t1.at' (sumF x.key)).pgs.length - 1]? = some q := ⟨_, List.getElem?_eq_getElem (by omega)⟩
      have hf1 : Fits [x] := by
       have h5 := HX.out.key.2
       have h6 := HX.out.rest
       refine ⟨fun c hc => by rw [List.mem_singleton.1 hc]; exact HX.out, List.pairwise_singleton _ _, ?_⟩
       simp only [szs, List.map_cons, List.map_nil, List.sum_cons, List.sum_nil, Cel.sz]
       split <;> omega
      have hmo := st1.hs.more x HX.out _ m i q (by omega) hq hno hf1 h1 hmap
      refine (cmore_ok w0 W gb mb sb qb c n cb w2.heap.size _ m i pg1 _ _ q x (st1.gv.rk hW) (ch1.below hW) (by omega) (by omega) hq HX.out (by omega) (hqm _ _ _ hq).1 (hqm _ _ _ hq).2 hmap st1.hs.is (by omega) h1 h3 st1.gv.n64).mono ?_
      rintro e w' ⟨rfl, hg, hk⟩
      refine ⟨0, rfl, Lib.hid ⟨.inl ⟨rfl, _, Dr, _, _, ⟨?_, hmo.1⟩, .inr ⟨t1, hrel1.1, .inr ⟨hnf, hcond, i, (st1.hs.free h1).2.2.1, rfl⟩⟩, fun k => ?_, HDR.out, ((HX1.out.upd (st1.hs.notX (by omega)) _).upd (st1.hs.tabX hq) _).upd (st1.hs.free h1).2.2.2.1 _⟩, frm1.ck (Ck.trans (.of_below hW) (hk.mono (by omega)))⟩⟩
      · have h9 := snoc_len t1 (sumF x.key) (i, [x])
        unfold updB at h9
        rw [h9]
        have : tk0 + ((numsF t1.leaves).length : Int) + 1 = tk0 + (((numsF t1.leaves).length + 1 : Nat) : Int) := by omega
        rw [← this]
        exact hg
      · rw [hmo.2 k, hrel1.2 k]
        by_cases e : k = x.key
        · rw [if_pos e, if_pos e]
        · rw [if_neg e, if_neg e, if_neg e]
   simp only [Cel.v] at hfit hmore
   rw [← EQ.out.1, ← EQ.out.2.1, ← EQ.out.2.2.1, ← EQ.out.2.2.2] at hfit hmore
   have cz := blk_cell box1
   have lz := lt_of_block box1
   have BX1 := Lib.hid box1
   have CH1 := Lib.hid ch1
   have ST1 := Lib.hid st1
   have TB1 := Lib.hid tbl1
   have FR1 := Lib.hid frm1
   have RL1 := Lib.hid hrel1
   have HM1 := Lib.hid hmore
   have HN1 := Lib.hid hno
   have HD1 := Lib.hid hdep1
   clear hqm hbk1 hm1 hrel1 hno box1 ch1 st1 tbl1 frm1 hmore hp0 hdep1
   go_wp2_with fail
   with_reducible refine hfit.mono ?_
   rintro e w6 hpost
   rcases hpost with ⟨j, m, q, cs, hLj, hpj, hsz, hbefore, rfl, hch, hg, hk⟩ | ⟨hnf, rfl, hbel⟩
   · have hI := ST1.out.hs.ins x HX.out j m q cs hpj hLj HN1.out hsz
     have HP : Hid (SetPostX w0 gb mb sb qb c n pg D t X tk0 x grow (.returned (.int .i64 0)) w6 ∧ Wk w0.heap.size gb mb w w6) := Lib.hid ⟨.inl ⟨rfl, _, Dr, _, mlr, set_st (set_len' _ _ _ _) hI.1 hg, .inr ⟨t1, RL1.out.1, .inl ⟨j, m, cs, hpj, hsz, hbefore, rfl⟩⟩, (fun k => by
      have h2 := RL1.out.2 k
      refine (hI.2.2 k).trans ?_
      rw [h2]
      by_cases e : k = x.key
      · rw [if_pos e, if_pos e]
      · rw [if_neg e, if_neg e, if_neg e]), HDR.out, HX1.out.upd (ST1.out.hs.tabX hLj) _⟩, FR1.out.ck (hk.mono (by omega))⟩
     clear hI hLj hpj hsz hbefore hch hg hk cz lz hfit
     go_wp2_with fail
     go_ret
     exact HP.out
   · have NF := Lib.hid hnf
     have BL := Lib.hid hbel
     have z6 := blk_keep BX1.out hbel
     have cz6 := blk_cell z6
     have lz6 := lt_of_block z6
     have hsz6 := hbel.size
     obtain ⟨nb, pb, cn, cp, hf⟩ := (CH1.out.below hbel).form (by omega)
     have c1 : w6.cell? ⟨pb, 1, none⟩ = some (.int .i64 (t1.dep (sumF x.key) : Nat)) := (hf.pag 0 _ _ rfl).2.1
     have lp := hf.pl
     have cc := blk_cell hf.blk
     have lc := lt_of_block hf.blk
     have l0 : (0 : Int) < (((t1.at' (sumF x.key)).pags (t1.dep (sumF x.key))).length : Int) := by omega
     have hov : (t1.at' (sumF x.key)).pgs.length = (t1.at' (sumF x.key)).ov.length + 1 := rfl
     generalize hLL : ((t1.at' (sumF x.key)).pags (t1.dep (sumF x.key))).length = LL at *
     generalize hdd : t1.dep (sumF x.key) = dd at *
     clear hnf hbel z6 hf cz lz hfit
     by_cases hg : grow = true
     · subst hg
       by_cases h5 : 5 ≤ dd
       · have hmo := HM1.out w6 BL.out NF.out (.inr (.inl h5))
         have h5' : (5 : Int) ≤ (dd : Int) := by omega
         go_wp2_with fail
         with_reducible refine hmo.mono ?_
         rintro e w7 ⟨zz, rfl, HP⟩
         go_wp2_with fail
         go_ret
         exact HP.out
       · have h5' : ¬ (5 : Int) ≤ (dd : Int) := by omega
         by_cases ho : (t1.at' (sumF x.key)).ov = []
         · have hspl := HS.out rfl w6 wr.heap.size cb tb pg1 Dr t1 mlr ⟨ST1.out.gv.rk BL.out, ST1.out.hs⟩ (blk_keep TB1.out BL.out) htb (by rw [hdd]; exact (CH1.out.below BL.out).mono hC2) hC ho (by rw [hdd]; omega)
           rw [← EQ.out.1] at hspl
           have ho' : ¬ (1 : Int) < (LL : Int) := by
            rw [ho] at hov
            simp at hov
            omega
           have HO := Lib.hid ho
           have Z6 := Lib.hid (blk_keep BX1.out BL.out)
           clear ho
           go_wp2_with fail
           with_reducible refine hspl.mono ?_
           rintro e w7 ⟨hpost, hck⟩
           have FR7 : Hid (Wk w0.heap.size gb mb w w7) := Lib.hid (FR1.out.ck (Ck.trans (.of_below BL.out) (hck.mono (by omega))))
           rcases hpost with ⟨rfl, pg', D', t', ml', hst', hsp, hlk, hsx⟩ | ⟨rfl, hst', htk⟩
           · have hd' := hsp.dep
             have R' : Hid (Rd w0 w gb mb sb qb c n D pg t X tk0 x true w.heap.size U1 U2 xb xz (gk - 1) w7) := Lib.hid
              ⟨⟨pg', D', t', ml', hst', .inr ⟨RL1.out.1.last rfl NF.out HO.out (by rw [hdd]; omega) hsp, fun k => (hlk k).trans (RL1.out.2 k), rfl, HBIG.out NF.out⟩, by have := HKR.out; have := HD1.out; omega, .inr ⟨rfl, HBIG.out NF.out⟩, HX1.out.trans hsx⟩, hck.blk Z6.out hw0 (by omega) (by omega) hwr, FR7.out⟩
             have hgk : gk - 1 < gk := by have := HKR.out; have := HD1.out; omega
             clear hst' hsp hlk hsx hd' hck
             go_wp2_with fail
             go_roundg (gk - 1)
             case measure => exact hgk
             case rel => exact R'
           · have HP : Hid (SetPostX w0 gb mb sb qb c n pg D t X tk0 x true (.returned (.int .i64 6)) w7 ∧ Wk w0.heap.size gb mb w w7) := Lib.hid ⟨.inr ⟨rfl, pg1, Dr, t1, mlr, hst', RL1.out.1, NF.out, htk⟩, FR7.out⟩
             clear hst' htk hck
             go_wp2_with fail
             go_ret
             exact HP.out
         · have hmo := HM1.out w6 BL.out NF.out (.inr (.inr ho))
           have ho' : (1 : Int) < (LL : Int) := by
            have := List.length_pos_iff.2 ho
            omega
           clear ho
           go_wp2_with fail
           with_reducible refine hmo.mono ?_
           rintro e w7 ⟨zz, rfl, HP⟩
           go_wp2_with fail
           go_ret
           exact HP.out
     · have hg' : grow = false := by simpa using hg
       subst hg'
       have hmo := HM1.out w6 BL.out NF.out (.inl rfl)
       clear hg
       go_wp2_with fail
       with_reducible refine hmo.mono ?_
       rintro e w7 ⟨zz, rfl, HP⟩
       go_wp2_with fail
       go_ret
       exact HP.out
theorem set_ok (w0 w : World) (gb mb sb qb c n D : Nat) (pg : Nat → Pag) (t : Tri) (ml : List UInt8) (X : List Nat) (tk0 : Int) (x : Cel) (grow : Bool) (h : St w0 w gb mb sb qb c n pg D t ml X tk0) (hx : x.ok)
 (hk : -900000 ≤ tk0 ∧ tk0 ≤ 900000) (hsplit : grow = true → SplitLaw w0 gb mb sb qb c n X tk0 x.key) :
 Calls Tryz.prog 18 #[.pointer (some ⟨gb, 0, none⟩), x.v, .bool grow] w fun e w' => SetPost w0 gb mb sb qb c n D t X tk0 x grow e w' ∧ Wk w0.heap.size gb mb w w' :=
 (set_okX w0 w gb mb sb qb c n D pg t ml X tk0 x grow h hx hk hsplit).mono fun _ _ ⟨h1, h2⟩ => ⟨h1.post, h2⟩
end Go.Proofs.YtijhamllnnilbaaGreatDoor.Ha
