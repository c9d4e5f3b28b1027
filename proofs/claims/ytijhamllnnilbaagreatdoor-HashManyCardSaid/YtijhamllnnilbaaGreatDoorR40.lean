/- Lemmas of the claim, in their order:
- The contract of the table's split.
-/
import Derived.Test.YtijhamllnnilbaaGreatDoorR39
import Derived.Test.YtijhamllnnilbaaGreatDoorR36
import Derived.Test.YtijhamllnnilbaaGreatDoorR27
import Derived.Test.YtijhamllnnilbaaGreatDoorR35
import Derived.Deep.DeepCutAuto
set_option linter.unusedVariables false
set_option linter.unusedSimpArgs false
namespace Go.Proofs.YtijhamllnnilbaaGreatDoor.Ha
open Go.RowKit Go.Proofs.YtijhamllnnilbaaGreatDoor.Mem Go.Proofs.YtijhamllnnilbaaGreatDoor.Pg Go.Proofs.YtijhamllnnilbaaGreatDoor.Kp Go.Proofs.YtijhamllnnilbaaGreatDoor.Sp Go.Proofs.YtijhamllnnilbaaGreatDoor.Gr
set_option linter.unusedSimpArgs false
set_option linter.unusedVariables false
theorem or_i64 (a d : Nat) (ha : a < 2 ^ d) (hd : d ≤ 31) : bits .or .i64 (a : Int) (IntKind.i64.wrap ((2 : Int) ^ d)) = ((a + 2 ^ d : Nat) : Int) := by
 have h1 : 2 ^ d ≤ 2 ^ 31 := Nat.pow_le_pow_right (by omega) hd
 have h3 : 1 ≤ 2 ^ d := Nat.one_le_two_pow
 have e : ((2 : Int) ^ d) = ((2 ^ d : Nat) : Int) := by simp
 have h4 : a ||| 2 ^ d = a + 2 ^ d := by
  have := Nat.two_pow_add_eq_or_of_lt ha 1
  rw [Nat.mul_one] at this
  rw [Nat.or_comm, ← this, Nat.add_comm]
 rw [e]
 generalize 2 ^ d = P at *
 rw [IntWalk.i64_in (P : Int) (by omega)]
 show IntKind.i64.wrap ((BitVec.ofInt 64 (a : Int) ||| BitVec.ofInt 64 (P : Int)).toNat : Int) = _
 rw [BitVec.toNat_or, u64_nat a (by omega), u64_nat P (by omega), h4]
 exact IntWalk.i64_in _ (by omega)
theorem Ch.one {C : Nat} {w : World} {cb gb m : Nat} {p : Pag} (h : Ch C w cb gb [(m, p)]) : ∃ nb cn cur pb cp, w.heap[cb]? = some (chO gb (.slice (some ⟨nb, 0, none⟩) 1 cn) (.slice (some ⟨pb, 0, none⟩) 1 cp)) ∧ w.heap[nb]? = some (.cells cur 3 (0, 0)) ∧ cur[0]? = some (.int .i64 (m : Int)) ∧
 C ≤ nb ∧ C ≤ pb ∧ pb < w.heap.size ∧ w.cell? ⟨pb, 0, none⟩ = some (.int .i64 p.k) ∧ w.cell? ⟨pb, 1, none⟩ = some (.int .i64 p.d) ∧ w.cell? ⟨pb, 2, none⟩ = some (.int .i64 p.x) ∧ w.cell? ⟨pb, 3, none⟩ = some (.string (str p.l)) := by
 obtain ⟨nb, pb, cn, cp, hf⟩ := h.form (by simp)
 obtain ⟨c0, c1, c2, c3⟩ := hf.pag 0 _ _ rfl
 obtain ⟨nv, pv, h1, h2, h3, _⟩ := h.ex
 have hb := hf.blk
 rw [h1] at hb
 simp only [chO, Option.some.injEq, Obj.cells.injEq, Array.mk.injEq, List.cons.injEq, true_and, and_true] at hb
 obtain ⟨rfl, rfl⟩ := hb
 rcases h2.2 with ⟨h4, _⟩ | ⟨g, cap, cur, h4, h5, h6, _, _, _, h7⟩
 · cases h4
 · injection h4 with h4 _ _
   injection h4 with h4
   injection h4 with h4 _ _
   subst h4
   refine ⟨nb, cn, cur, pb, cp, hf.blk, h6, ?_, hf.nC, hf.pC, hf.pl, c0, c1, c2, c3⟩
   have h8 : (cur.toList.take 1)[0]? = some (.int .i64 (m : Int)) := by
    have h9 : cur.toList.take 1 = natV [m] := h7
    rw [h9]; rfl
   simpa [List.getElem?_take] using h8
theorem ty_ne {w : World} {a b : Nat} {cs ds : Array Value} {s t : TypeId} (h1 : w.heap[a]? = some (.cells cs s (0, 0))) (h2 : w.heap[b]? = some (.cells ds t (0, 0))) (hne : s ≠ t) : a ≠ b := fun e => by
 subst e
 rw [h1] at h2
 injection h2 with h2
 injection h2 with _ h3
 exact hne h3
set_option maxRecDepth 100000 in
set_option maxHeartbeats 8000000 in
theorem split_law (w0 : World) (gb mb sb qb c n : Nat) (X : List Nat) (tk0 : Int) (key : List UInt8) (hkl : key.length ≤ 1000) (hkt : -900000 ≤ tk0 ∧ tk0 ≤ 900000) : SplitLaw w0 gb mb sb qb c n X tk0 key := by
 intro W C cb tb pg D t ml hS htb hCt hCh hC hov hd5
 have T := hS.hs.tb
 have H := hS.hs
 have h64 := hS.gv.n64
 have hgl := hS.gv.lt
 have hgb := hS.gv.base
 have hL1 : ((t.at' (sumF key)).pags (t.dep (sumF key))) = [((t.at' (sumF key)).n, ⟨3, (t.dep (sumF key) : Nat), 0, bodyF (t.at' (sumF key)).cs⟩)] := by
  unfold Lf.pags Lf.pgs; rw [hov]; rfl
 rw [hL1] at hCh
 obtain ⟨nb, cn, cur, pb, cp, hcb, hnb, hcur, hnC, hpC, hpl, c0, c1, c2, c3⟩ := hCh.one
 have hcC := hCh.base
 simp only at c0 c1 c2 c3
 obtain ⟨md, mx, hmap⟩ := H.map
 have hfit : Fits (t.at' (sumF key)).cs := T.fits _ (t.at_mem _) ((t.at' (sumF key)).n, _) (List.mem_cons_self ..)
 have hdl : t.dep (sumF key) ≤ D := by have := t.dep_le (sumF key); have := T.hi; omega
 have hD5 := T.d5
 have hrng := T.at_rng (sumF key)
 have hL64 := numsF_len H
 have hcells := fun W => bCells_ok ⟨3, (t.dep (sumF key) : Nat), 0, bodyF (t.at' (sumF key)).cs⟩ (t.at' (sumF key)).cs ⟨.inl rfl, rfl, hfit⟩ W
 have hspl := fun W A cap (hA : Cels W A (t.at' (sumF key)).cs) => bsplit_ok W (t.dep (sumF key)) (t.at' (sumF key)).cs.length cap A (t.at' (sumF key)).cs hA rfl (by have := hfit.len; omega) (by omega) (fun x hx => by have := (hfit.ok x hx).key.2; omega)
 have hbits := fun W => bits_any key (t.dep (sumF key)) (by omega) W (by omega)
 have hbl : bitsF key (t.dep (sumF key)) < 2 ^ t.dep (sumF key) := Nat.mod_lt _ (Nat.two_pow_pos _)
 have hor := or_i64 (bitsF key (t.dep (sumF key))) (t.dep (sumF key)) hbl (by omega)
 have hfillA := fun W base v (ho : World.ownsRow W base 33 4 v ((t.at' (sumF key)).cs.filter (bitF (t.dep (sumF key)))).length (flatC ((t.at' (sumF key)).cs.filter (bitF (t.dep (sumF key)))))) => filled_ok W base v _ _ (t.dep (sumF key) + 1) ho (List.Perm.refl _) (hfit.filter _)
 have hfillB := fun W base v (ho : World.ownsRow W base 33 4 v ((t.at' (sumF key)).cs.filter (fun c => !bitF (t.dep (sumF key)) c)).length (flatC ((t.at' (sumF key)).cs.filter (fun c => !bitF (t.dep (sumF key)) c)))) => filled_ok W base v _ _ (t.dep (sumF key) + 1) ho (List.Perm.refl _) (hfit.filter _)
 have hdbl := fun W (h : D ≤ t.dep (sumF key)) => Dr.good_double (T.good h64) ((D + 1 : Nat) : Int) (by omega) (by omega) W
 rw [← entsF_twice D t T.hi] at hdbl
 have hset := fun W D' (hDD : D = D' ∨ D + 1 = D') (hd' : t.dep (sumF key) + 1 ≤ D') (h5 : D' ≤ 5) (m : Nat) (hm : 2 ≤ m ∧ m < n) => by
  have hg : Dr.Good D' D' (entsF D' t) := ⟨rfl, h5, entsF_len D' t, fun y hy => by
   obtain ⟨i, _, rfl⟩ := List.mem_map.1 hy
   have := T.at_rng i
   exact ⟨by omega, by omega⟩⟩
  have hpw := pow_split (sumF key) (t.dep (sumF key))
  have hst := Dr.good_set hg (t.dep (sumF key) + 1) ((bitsF key (t.dep (sumF key)) + 2 ^ t.dep (sumF key) : Nat) : Int) (m : Nat) hd' (by omega) (by have : 2 ^ (t.dep (sumF key) + 1) = 2 ^ t.dep (sumF key) * 2 := Nat.pow_succ ..; omega) ⟨by omega, by omega⟩ W
  rw [show entsF D' t = entsF D' t from rfl] at hst
  have he := entsF_split D' t (sumF key) m
  have hb : bitsF key (t.dep (sumF key)) = sumF key % 2 ^ t.dep (sumF key) := rfl
  rw [hb] at hst
  rw [← he, ← hb] at hst
  exact hst
 have hlenD : ∀ D' m : Nat, (D = D' ∨ D + 1 = D') → D' ≤ 5 → 2 ≤ m ∧ m < n → (Dr.bodyOf (entsF D' (t.upd (sumF key) (t.dep (sumF key)) (halfT (t.dep (sumF key)) (t.at' (sumF key)) m)))).length = 240 := fun D' m hDD h5 hm => by
  have hg : Dr.Good D' D' (entsF D' t) := ⟨rfl, h5, entsF_len D' t, fun y hy => by
   obtain ⟨i, _, rfl⟩ := List.mem_map.1 hy
   have := T.at_rng i
   exact ⟨by omega, by omega⟩⟩
  rw [entsF_split]
  exact (hg.set (y := (m : Nat)) ⟨by omega, by omega⟩).isDir.len
 have hfin : ∀ D' m : Nat, (D = D' ∨ D + 1 = D') → t.dep (sumF key) + 1 ≤ D' → D' ≤ 5 → takeI 2 ml = m → ∀ w', GV w0 w' gb mb sb qb c n (splitPg pg md mx ml D' t (sumF key) m) (tk0 + ((numsF t.leaves).length : Int) + 1) → SplitPost w0 gb mb sb qb c n pg D t ml X tk0 (sumF key) (.returned (.int .i64 0)) w' := fun D' m hDD hd' h5 hm w' hgv => by
  obtain ⟨hs, hno, _, _⟩ := H.split (sumF key) m hov hm hmap D' (by omega) hd' h5
  have hfr := H.free hm
  refine .inl ⟨rfl, _, D', _, _, ⟨?_, hs⟩, ⟨m, hno, rfl⟩, fun k => look_split t (sumF key) m hov k, ((((SameX.refl X pg).upd (H.notX (by omega)) _).upd (H.notX (by omega)) _).upd (fun hx => H.xd _ hx (numsF_mem (t.at_mem (sumF key)) (Lf.n_mem _))) _).upd hfr.2.2.2.1 _⟩
  rw [split_len t (sumF key) m hov]
  have e : tk0 + (((numsF t.leaves).length + 1 : Nat) : Int) = tk0 + ((numsF t.leaves).length : Int) + 1 := by omega
  rw [e]
  exact hgv
 obtain ⟨EB, hEB⟩ : ∃ f : Nat → ByteArray, ∀ D', Dr.bdy (entsF D' t) = f D' := ⟨_, fun _ => rfl⟩
 generalize hdE : t.dep (sumF key) = d at *
 obtain ⟨ED, hED⟩ : ∃ f : Nat → Nat → ByteArray, ∀ D' m, Dr.bdy (entsF D' (t.upd (sumF key) d (halfT d (t.at' (sumF key)) m))) = f D' m := ⟨_, fun _ _ => rfl⟩
 generalize hNB : (t.at' (sumF key)).n = NB at *
 generalize hCS : (t.at' (sumF key)).cs = cs at *
 obtain ⟨Z, hZ⟩ : ∃ Z, Z = str (bodyF cs) := ⟨_, rfl⟩
 obtain ⟨S0, hS0⟩ : ∃ Z, Z = str (bodyF (cs.filter (bitF d))) := ⟨_, rfl⟩
 obtain ⟨S1, hS1⟩ : ∃ Z, Z = str (bodyF (cs.filter (fun c => !bitF d c))) := ⟨_, rfl⟩
 obtain ⟨BK, hBK⟩ : ∃ b, b = bitsF key d := ⟨_, rfl⟩
 obtain ⟨U, hU⟩ : ∃ U, U = str key := ⟨_, rfl⟩
 simp only [Pag.v] at hcells hfillA hfillB
 rw [← hZ] at hcells c3
 rw [← hS0] at hfillA
 rw [← hS1] at hfillB
 rw [← hBK] at hbits hor
 rw [← hU] at hbits ⊢
 simp only [hEB, hED, ← hBK] at hset hdbl
 obtain ⟨OV, hOV⟩ : ∃ x : Int, x = ((BK + 2 ^ d : Nat) : Int) := ⟨_, rfl⟩
 obtain ⟨DI, hDI⟩ : ∃ x : Int, x = ((D + 1 : Nat) : Int) := ⟨_, rfl⟩
 have ed : ((d + 1 : Nat) : Int) = (d : Int) + 1 := by omega
 rw [← hOV] at hor
 simp only [← hOV, ed] at hset
 simp only [ed] at hfillA hfillB
 rw [← hDI] at hdbl
 have HDI := Lib.hid hDI
 have HLD := Lib.hid hlenD
 have HFIN := Lib.hid hfin
 rw [hEB] at htb
 have Hcells := Lib.hid hcells
 have Hspl := Lib.hid hspl
 have Hbits := Lib.hid hbits
 have Hor := Lib.hid hor
 have HfA := Lib.hid hfillA
 have HfB := Lib.hid hfillB
 have Hdbl := Lib.hid hdbl
 have Hset := Lib.hid hset
 have HSt := Lib.hid hS
 have HOV := Lib.hid hov
 have HMP := Lib.hid hmap
 have HFIT := Lib.hid hfit
 have EQ := Lib.hid (And.intro hdE (And.intro hNB (And.intro hCS (And.intro hED (And.intro hZ (And.intro hS0 hS1))))))
 have Hcur := Lib.hid hcur
 have tne1 : tb ≠ cb := ty_ne htb hcb (by decide)
 have tne2 : tb ≠ nb := ty_ne htb hnb (by decide)
 have tlt := lt_of_block htb
 have ccb := blk_cell hcb
 have lcb := lt_of_block hcb
 obtain ⟨W1, hW1⟩ : ∃ W1, W1 = W.alloc (pagO 3 d 0 Z) := ⟨_, rfl⟩
 have B1 : Hid (Below W.heap.size W W1) := Lib.hid (hW1 ▸ below_al (Below.refl _ W) _)
 have HT1 := Lib.hid (blk_keep htb B1.out)
 have CB1 := Lib.hid (blk_keep hcb B1.out)
 have NB1 := Lib.hid (blk_keep hnb B1.out)
 have PZ1 : Hid (W1.heap[W.heap.size]? = some (pagO 3 d 0 Z)) := Lib.hid (hW1 ▸ heap_alloc_new W _)
 clear hlenD hfin hcells hspl hbits hor hfillA hfillB hdbl hset hS hov hmap hfit hdE hNB hCS hED hEB hZ hS0 hS1 hBK hU hOV hDI ed hbl hCh hL1 htb hcb hnb hcur T H
 go_enter Tryz.func58, Tryz.ntmps58
 go_wp2_with fail
 rw [← hW1]
 clear hW1 c0 c1 c2 c3 ccb lcb
 refine wp_region_held_drew (S := (Bz W1)) (by kernel_rfl) (below_dr (Below.refl _ _)) (fun hHeld => ?_)
 refine Ra.W 0 ?_ ?_ hHeld ?_
 rotate_left
 · intro wq hSw
   go_simp
   try with_reducible rfl
 try simp only [Act.put, List.getElem_toArray, List.getElem_cons_succ, List.getElem_cons_zero, List.setIfInBounds_toArray, List.set_cons_zero, List.set_cons_succ]
 refine Ra.W 1 ?_ ?_ hHeld ?_
 rotate_left
 · intro wq hSw
   have hSc := blk_cell (blk_keep HT1.out hSw); have hSl := lt_of_block (blk_keep HT1.out hSw); have hSd := blk_cell (blk_keep PZ1.out hSw); have hSe := lt_of_block (blk_keep PZ1.out hSw)
   go_simp
   try with_reducible rfl
 try simp only [Act.put, List.getElem_toArray, List.getElem_cons_succ, List.getElem_cons_zero, List.setIfInBounds_toArray, List.set_cons_zero, List.set_cons_succ]
 refine Ra.W 2 ?_ ?_ hHeld ?_
 rotate_left
 · intro wq hSw
   go_simp
   try with_reducible rfl
 try simp only [Act.put, List.getElem_toArray, List.getElem_cons_succ, List.getElem_cons_zero, List.setIfInBounds_toArray, List.set_cons_zero, List.set_cons_succ]
 refine Ra.W 3 ?_ ?_ hHeld ?_
 rotate_left
 · intro wq hSw
   go_simp
   try with_reducible rfl
 try simp only [Act.put, List.getElem_toArray, List.getElem_cons_succ, List.getElem_cons_zero, List.setIfInBounds_toArray, List.set_cons_zero, List.set_cons_succ]
 refine Ra.W 4 ?_ ?_ hHeld ?_
 rotate_left
 · intro wq hSw
   go_simp
   try with_reducible rfl
 try simp only [Act.put, List.getElem_toArray, List.getElem_cons_succ, List.getElem_cons_zero, List.setIfInBounds_toArray, List.set_cons_zero, List.set_cons_succ]
 refine Ra.W 5 ?_ ?_ hHeld ?_
 rotate_left
 · intro wq hSw
   go_simp
   try with_reducible rfl
 try simp only [Act.put, List.getElem_toArray, List.getElem_cons_succ, List.getElem_cons_zero, List.setIfInBounds_toArray, List.set_cons_zero, List.set_cons_succ]
 refine Ra.W 6 ?_ ?_ hHeld ?_
 rotate_left
 · intro wq hSw
   have hSc := blk_cell (blk_keep HT1.out hSw); have hSl := lt_of_block (blk_keep HT1.out hSw); have hSd := blk_cell (blk_keep PZ1.out hSw); have hSe := lt_of_block (blk_keep PZ1.out hSw)
   go_simp
   try with_reducible rfl
 try simp only [Act.put, List.getElem_toArray, List.getElem_cons_succ, List.getElem_cons_zero, List.setIfInBounds_toArray, List.set_cons_zero, List.set_cons_succ]
 refine Ra.W 7 ?_ ?_ hHeld ?_
 rotate_left
 · intro wq hSw
   go_simp
   try rw [if_neg (by omega)]
   try rw [if_pos (by omega)]
   try with_reducible rfl
 try simp only [Act.put, List.getElem_toArray, List.getElem_cons_succ, List.getElem_cons_zero, List.setIfInBounds_toArray, List.set_cons_zero, List.set_cons_succ]
 refine wpAnyH_done (by kernel_rfl) ?_ _
 obtain ⟨W2, hW2⟩ : ∃ W2, W2 = W1.drew := ⟨_, rfl⟩
 rw [← hW2] at hHeld ⊢
 have B2 := Lib.hid (below_tr B1.out hHeld)
 have HT2 := Lib.hid (blk_keep HT1.out hHeld)
 have CB2 := Lib.hid (blk_keep CB1.out hHeld)
 have NB2 := Lib.hid (blk_keep NB1.out hHeld)
 have PZ2 := Lib.hid (blk_keep PZ1.out hHeld)
 clear hW2 hHeld HT1 CB1 NB1 PZ1 B1
 go_upto_if 31 with fail
 go_cut [] (fun V => ∃ D', Hid ((D = D' ∨ D + 1 = D') ∧ d + 1 ≤ D' ∧ D' ≤ 5 ∧ V.heap[tb]? = some (tbO gb D' (EB D')) ∧ Keep (fun q => q = tb) W2 V))
 case first =>
  have ct := blk_cell HT2.out
  have lt2 := lt_of_block HT2.out
  by_cases hge : D ≤ d
  · have dge : decide ((D : Int) ≤ (d : Int)) = true := by simp; omega
    have dgn : decide (D ≤ d) = true := by simp; omega
    have hgI : (D : Int) ≤ (d : Int) := by omega
    have hdb := Hdbl.out W2 hge
    go_wp2_with fail
    with_reducible refine hdb.mono ?_
    rintro e W3 ⟨rfl, hb3⟩
    have y4 := heap_alloc_new W3 (pagO 1 DI 0 (EB (D + 1)))
    have t4 := hal (o := pagO 1 DI 0 (EB (D + 1))) (blk_keep HT2.out hb3)
    have cy4 := blk_cell y4
    have ly4 := lt_of_block y4
    have ct4 := blk_cell t4
    have ft4 := blk_free t4
    have lt4 := lt_of_block t4
    have KK : Hid (Keep (fun q => q = tb) W2 (set4o (W3.alloc (pagO 1 DI 0 (EB (D + 1)))) tb 1 (.int .i64 1) (.int .i64 DI) (.int .i64 0) (.string (EB (D + 1))))) :=
     Lib.hid (keep_set4o (S := fun q => q = tb) (Keep.of_below (below_al hb3 _)) (.inl rfl) _ _ _ _)
    have TT := set4o_same (o := 1) t4 (.int .i64 1) (.int .i64 DI) (.int .i64 0) (.string (EB (D + 1)))
    have HTT := Lib.hid TT
    clear hb3 hdb ct lt2 TT y4 t4
    go_wp2_with fail
    go_meet
    exact ⟨D + 1, Lib.hid ⟨.inr rfl, by omega, by omega, by have h := HTT.out; show _ = some (tbO gb (D + 1) (EB (D + 1))); unfold tbO; rw [← HDI.out]; exact h, KK.out⟩⟩
  · have dge : decide ((D : Int) ≤ (d : Int)) = false := by simp; omega
    have dgn : decide (D ≤ d) = false := by simp; omega
    go_wp2_with fail
    go_meet
    exact ⟨D, Lib.hid ⟨.inl rfl, by omega, hD5, HT2.out, Keep.refl _ _⟩⟩
 case rest =>
  obtain ⟨D', hcut⟩ := hcut
  obtain ⟨hDD, hd', h5', htc, hkc⟩ := hcut.out
  have HDD := Lib.hid hDD
  have KC := Lib.hid ((Keep.of_below (S := fun q => q = tb) B2.out).trans hkc)
  have GC := HSt.out.gv.owns KC.out (fun q hq => by omega)
  have HTc := Lib.hid htc
  have CBc := Lib.hid (hkc.blk CB2.out (fun e => tne1 e.symm))
  have NBc := Lib.hid (hkc.blk NB2.out (fun e => tne2 e.symm))
  have PZc := Lib.hid (hkc.blk PZ2.out (by omega))
  have ctc := blk_cell htc
  have ltc := lt_of_block htc
  have lcb := lt_of_block CBc.out
  have lnb := lt_of_block NBc.out
  have lpz := lt_of_block PZc.out
  have hmapI := HSt.out.hs.is
  clear hDD htc hkc hcut HT2 CB2 NB2 PZ2 B2
  rcases takeI_map HSt.out.hs.is with ⟨h1, _⟩ | ⟨m, h1, h2, h3, _, _⟩
  · have htake := GC.take_noR HMP.out HSt.out.hs.is (by omega)
    have HN : Hid (takeI 2 ml < 0) := Lib.hid (by omega)
    clear GC h1 hmapI
    go_wp2_with fail
    with_reducible refine htake.mono ?_
    rintro e w4 ⟨rfl, g4, k4⟩
    have G4 := Lib.hid g4
    have K4 := Lib.hid k4
    clear htake g4 k4 ctc ltc
    go_wp2_with fail
    go_ret
    exact ⟨.inr ⟨rfl, ⟨G4.out, HSt.out.hs⟩, HN.out⟩, (Ck.of_keep KC.out (fun q hq => by omega)).trans (.of_rk K4.out)⟩
  · have htake := GC.takeW HMP.out HSt.out.hs.is (by omega) m h1 h3
    have HTI := Lib.hid h1
    clear GC h1 hmapI
    go_wp2_with fail
    with_reducible refine htake.mono ?_
    rintro e w4 ⟨rfl, g4, k4⟩
    have G4 := Lib.hid g4
    have K4 := Lib.hid k4
    have HT4 := Lib.hid (k4.blk HTc.out (by omega) (by omega) (by omega))
    have CB4 := Lib.hid (k4.blk CBc.out (by omega) (by omega) (by omega))
    have NB4 := Lib.hid (k4.blk NBc.out (by omega) (by omega) (by omega))
    have PZ4 := Lib.hid (k4.blk PZc.out (by omega) (by omega) (by omega))
    clear htake g4 k4 ctc ltc
    go_wp2_with fail
    refine wp_region_held_drew (S := (Bz w4)) (by kernel_rfl) (below_dr (Below.refl _ _)) (fun hHeld => ?_)
    refine Ra.W 0 ?_ ?_ hHeld ?_
    rotate_left
    · intro wq hSw
      go_simp
      try with_reducible rfl
    try simp only [Act.put, List.getElem_toArray, List.getElem_cons_succ, List.getElem_cons_zero, List.setIfInBounds_toArray, List.set_cons_zero, List.set_cons_succ]
    refine Ra.W 1 ?_ ?_ hHeld ?_
    rotate_left
    · intro wq hSw
      have hSd := blk_cell (blk_keep PZ4.out hSw); have hSe := lt_of_block (blk_keep PZ4.out hSw)
      go_simp
      try with_reducible rfl
    try simp only [Act.put, List.getElem_toArray, List.getElem_cons_succ, List.getElem_cons_zero, List.setIfInBounds_toArray, List.set_cons_zero, List.set_cons_succ]
    refine Ra.W 2 ?_ ?_ hHeld ?_
    rotate_left
    · intro wq hSw
      have hSd := blk_cell (blk_keep PZ4.out hSw); have hSe := lt_of_block (blk_keep PZ4.out hSw)
      go_simp
      try with_reducible rfl
    try simp only [Act.put, List.getElem_toArray, List.getElem_cons_succ, List.getElem_cons_zero, List.setIfInBounds_toArray, List.set_cons_zero, List.set_cons_succ]
    refine wpAnyH_ready (rs := [3]) (by kernel_rfl) (by simp) ?_
    refine AllReadyH.cons rfl (fun K hK => ?_) AllReadyH.nil
    rw [if_pos (by kernel_rfl)]
    go_simp
    (with_reducible refine (Hcells.out _).mono ?_)
    rintro e w6 ⟨A6, c6, rfl, ho6, hb6⟩
    have hsp6 := Hspl.out _ _ c6 (Cels.of_own ho6)
    clear ho6
    go_simp
    refine hK.out _ _ (below_tr hHeld hb6) (fun hHeld2 => ?_)
    clear hK K
    try clear hHeld
    have hHeld := hHeld2
    try clear hHeld2
    refine wpAnyH_ready (rs := [4]) (by kernel_rfl) (by simp) ?_
    refine AllReadyH.cons rfl (fun K hK => ?_) AllReadyH.nil
    rw [if_pos (by kernel_rfl)]
    go_simp
    (with_reducible refine hsp6.mono ?_)
    rintro e w7 ⟨A0, c0, A1, c1, rfl, hoA, hoB, hb7⟩
    have OA7 := Lib.hid hoA
    have OB7 := Lib.hid hoB
    clear hoA hoB hsp6
    go_simp
    refine hK.out _ _ (below_tr hHeld hb7) (fun hHeld2 => ?_)
    clear hK K
    try clear hHeld
    have hHeld := hHeld2
    try clear hHeld2
    refine Ra.W 5 ?_ ?_ hHeld ?_
    rotate_left
    · intro wq hSw
      go_simp
      try with_reducible rfl
    try simp only [Act.put, List.getElem_toArray, List.getElem_cons_succ, List.getElem_cons_zero, List.setIfInBounds_toArray, List.set_cons_zero, List.set_cons_succ]
    refine Ra.W 6 ?_ ?_ hHeld ?_
    rotate_left
    · intro wq hSw
      go_simp
      try with_reducible rfl
    try simp only [Act.put, List.getElem_toArray, List.getElem_cons_succ, List.getElem_cons_zero, List.setIfInBounds_toArray, List.set_cons_zero, List.set_cons_succ]
    refine Ra.W 7 ?_ ?_ hHeld ?_
    rotate_left
    · intro wq hSw
      go_simp
      try with_reducible rfl
    try simp only [Act.put, List.getElem_toArray, List.getElem_cons_succ, List.getElem_cons_zero, List.setIfInBounds_toArray, List.set_cons_zero, List.set_cons_succ]
    refine Ra.W 8 ?_ ?_ hHeld ?_
    rotate_left
    · intro wq hSw
      go_simp
      try with_reducible rfl
    try simp only [Act.put, List.getElem_toArray, List.getElem_cons_succ, List.getElem_cons_zero, List.setIfInBounds_toArray, List.set_cons_zero, List.set_cons_succ]
    refine Ra.W 9 ?_ ?_ hHeld ?_
    rotate_left
    · intro wq hSw
      go_simp
      try with_reducible rfl
    try simp only [Act.put, List.getElem_toArray, List.getElem_cons_succ, List.getElem_cons_zero, List.setIfInBounds_toArray, List.set_cons_zero, List.set_cons_succ]
    refine wpAnyH_done (by kernel_rfl) ?_ _
    have B7 := Lib.hid hHeld
    have HT7 := Lib.hid (blk_keep HT4.out hHeld)
    have CB7 := Lib.hid (blk_keep CB4.out hHeld)
    have NB7 := Lib.hid (blk_keep NB4.out hHeld)
    have PZ7 := Lib.hid (blk_keep PZ4.out hHeld)
    have s67 := hb7.size
    have HW6 : Hid (w4.heap.size ≤ w6.heap.size) := Lib.hid hb6.size
    clear hHeld hb6 hb7 HT4 CB4 NB4 PZ4
    go_wp2_with fail
    refine wp_region_held_drew (S := (Bz w7)) (by kernel_rfl) (below_dr (Below.refl _ _)) (fun hHeld => ?_)
    refine Ra.W 0 ?_ ?_ hHeld ?_
    rotate_left
    · intro wq hSw
      go_simp
      try with_reducible rfl
    try simp only [Act.put, List.getElem_toArray, List.getElem_cons_succ, List.getElem_cons_zero, List.setIfInBounds_toArray, List.set_cons_zero, List.set_cons_succ]
    refine Ra.W 1 ?_ ?_ hHeld ?_
    rotate_left
    · intro wq hSw
      go_simp
      try with_reducible rfl
    try simp only [Act.put, List.getElem_toArray, List.getElem_cons_succ, List.getElem_cons_zero, List.setIfInBounds_toArray, List.set_cons_zero, List.set_cons_succ]
    refine Ra.W 2 ?_ ?_ hHeld ?_
    rotate_left
    · intro wq hSw
      have hSd := blk_cell (blk_keep PZ7.out hSw); have hSe := lt_of_block (blk_keep PZ7.out hSw)
      go_simp
      try with_reducible rfl
    try simp only [Act.put, List.getElem_toArray, List.getElem_cons_succ, List.getElem_cons_zero, List.setIfInBounds_toArray, List.set_cons_zero, List.set_cons_succ]
    refine Ra.W 4 ?_ ?_ hHeld ?_
    rotate_left
    · intro wq hSw
      go_simp
      try with_reducible rfl
    try simp only [Act.put, List.getElem_toArray, List.getElem_cons_succ, List.getElem_cons_zero, List.setIfInBounds_toArray, List.set_cons_zero, List.set_cons_succ]
    refine Ra.W 5 ?_ ?_ hHeld ?_
    rotate_left
    · intro wq hSw
      have hSd := blk_cell (blk_keep PZ7.out hSw); have hSe := lt_of_block (blk_keep PZ7.out hSw)
      go_simp
      try with_reducible rfl
    try simp only [Act.put, List.getElem_toArray, List.getElem_cons_succ, List.getElem_cons_zero, List.setIfInBounds_toArray, List.set_cons_zero, List.set_cons_succ]
    refine Ra.W 6 ?_ ?_ hHeld ?_
    rotate_left
    · intro wq hSw
      go_simp
      try rw [if_neg (by omega)]
      try rw [if_pos (by omega)]
      try with_reducible rfl
    try simp only [Act.put, List.getElem_toArray, List.getElem_cons_succ, List.getElem_cons_zero, List.setIfInBounds_toArray, List.set_cons_zero, List.set_cons_succ]
    refine wpAnyH_ready (rs := [3]) (by kernel_rfl) (by simp) ?_
    refine AllReadyH.cons rfl (fun K hK => ?_) AllReadyH.nil
    rw [if_pos (by kernel_rfl)]
    go_simp
    (with_reducible refine (Hbits.out _).mono ?_)
    rintro e w8 ⟨rfl, hb8⟩
    go_simp
    refine hK.out _ _ (below_tr hHeld hb8) (fun hHeld2 => ?_)
    clear hK K
    try clear hHeld
    have hHeld := hHeld2
    try clear hHeld2
    refine Ra.W 7 ?_ ?_ hHeld ?_
    rotate_left
    · intro wq hSw
      go_simp
      try rw [if_neg (by omega)]
      try rw [if_pos (by omega)]
      try with_reducible rfl
    try simp only [Act.put, List.getElem_toArray, List.getElem_cons_succ, List.getElem_cons_zero, List.setIfInBounds_toArray, List.set_cons_zero, List.set_cons_succ]
    refine Ra.W 8 ?_ ?_ hHeld ?_
    rotate_left
    · intro wq hSw
      go_simp
      try with_reducible rfl
    try simp only [Act.put, List.getElem_toArray, List.getElem_cons_succ, List.getElem_cons_zero, List.setIfInBounds_toArray, List.set_cons_zero, List.set_cons_succ]
    refine wpAnyH_done (by kernel_rfl) ?_ _
    have B8 := Lib.hid hHeld
    clear hHeld hb8
    rw [Hor.out]
    have HT8 := Lib.hid (blk_keep HT7.out B8.out)
    have CB8 := Lib.hid (blk_keep CB7.out B8.out)
    have NB8 := Lib.hid (blk_keep NB7.out B8.out)
    have PZ8 := Lib.hid (blk_keep PZ7.out B8.out)
    have OA8 := Lib.hid (own_below OA7.out B8.out)
    have OB8 := Lib.hid (own_below OB7.out B8.out)
    have i1w : IntKind.i64.wrap ((d : Int) + 1) = (d : Int) + 1 := IntWalk.i64_in _ (by omega)
    have hst := fun W => Hset.out W D' HDD.out hd' h5' m ⟨h2, h3⟩
    have Hst := Lib.hid hst
    clear HT7 CB7 NB7 PZ7 OA7 OB7 hst
    go_upto_region 12 with fail
    go_cut [11, 15] (fun v11 v15 V => ∃ q : Nat, v15 = .pointer (some ⟨q, 0, none⟩) ∧ v11 = .int .i64 0 ∧ Hid (V.heap[q]? = some (pagO 1 D' 0 (ED D' m))) ∧ Hid (Below w8.heap.size w8 V))
    case first =>
     refine wp_region_held_drew (S := (Bz w8)) (by kernel_rfl) (below_dr (Below.refl _ _)) (fun hHeld => ?_)
     refine Ra.W 0 ?_ ?_ hHeld ?_
     rotate_left
     · intro wq hSw
       go_simp
       try with_reducible rfl
     try simp only [Act.put, List.getElem_toArray, List.getElem_cons_succ, List.getElem_cons_zero, List.setIfInBounds_toArray, List.set_cons_zero, List.set_cons_succ]
     refine Ra.W 1 ?_ ?_ hHeld ?_
     rotate_left
     · intro wq hSw
       go_simp
       try with_reducible rfl
     try simp only [Act.put, List.getElem_toArray, List.getElem_cons_succ, List.getElem_cons_zero, List.setIfInBounds_toArray, List.set_cons_zero, List.set_cons_succ]
     refine Ra.W 2 ?_ ?_ hHeld ?_
     rotate_left
     · intro wq hSw
       go_simp
       try with_reducible rfl
     try simp only [Act.put, List.getElem_toArray, List.getElem_cons_succ, List.getElem_cons_zero, List.setIfInBounds_toArray, List.set_cons_zero, List.set_cons_succ]
     refine Ra.W 3 ?_ ?_ hHeld ?_
     rotate_left
     · intro wq hSw
       have hSc := blk_cell (blk_keep HT8.out hSw); have hSl := lt_of_block (blk_keep HT8.out hSw); have hSd := blk_cell (blk_keep PZ8.out hSw); have hSe := lt_of_block (blk_keep PZ8.out hSw)
       go_simp
       try with_reducible rfl
     try simp only [Act.put, List.getElem_toArray, List.getElem_cons_succ, List.getElem_cons_zero, List.setIfInBounds_toArray, List.set_cons_zero, List.set_cons_succ]
     refine Ra.W 4 ?_ ?_ hHeld ?_
     rotate_left
     · intro wq hSw
       go_simp
       try with_reducible rfl
     try simp only [Act.put, List.getElem_toArray, List.getElem_cons_succ, List.getElem_cons_zero, List.setIfInBounds_toArray, List.set_cons_zero, List.set_cons_succ]
     refine Ra.W 5 ?_ ?_ hHeld ?_
     rotate_left
     · intro wq hSw
       go_simp
       try with_reducible rfl
     try simp only [Act.put, List.getElem_toArray, List.getElem_cons_succ, List.getElem_cons_zero, List.setIfInBounds_toArray, List.set_cons_zero, List.set_cons_succ]
     refine Ra.W 6 ?_ ?_ hHeld ?_
     rotate_left
     · intro wq hSw
       have hSc := blk_cell (blk_keep HT8.out hSw); have hSl := lt_of_block (blk_keep HT8.out hSw); have hSd := blk_cell (blk_keep PZ8.out hSw); have hSe := lt_of_block (blk_keep PZ8.out hSw)
       go_simp
       try with_reducible rfl
     try simp only [Act.put, List.getElem_toArray, List.getElem_cons_succ, List.getElem_cons_zero, List.setIfInBounds_toArray, List.set_cons_zero, List.set_cons_succ]
     refine Ra.W 7 ?_ ?_ hHeld ?_
     rotate_left
     · intro wq hSw
       go_simp
       try rw [if_neg (by omega)]
       try rw [if_pos (by omega)]
       try with_reducible rfl
     try simp only [Act.put, List.getElem_toArray, List.getElem_cons_succ, List.getElem_cons_zero, List.setIfInBounds_toArray, List.set_cons_zero, List.set_cons_succ]
     refine Ra.W 8 ?_ ?_ hHeld ?_
     rotate_left
     · intro wq hSw
       go_simp
       try with_reducible rfl
     try simp only [Act.put, List.getElem_toArray, List.getElem_cons_succ, List.getElem_cons_zero, List.setIfInBounds_toArray, List.set_cons_zero, List.set_cons_succ]
     refine wpAnyH_ready (rs := [9, 13]) (by kernel_rfl) (by simp) ?_
     refine AllReadyH.cons rfl (fun K hK => ?_) (AllReadyH.cons rfl (fun K hK => ?_) AllReadyH.nil)
     · rw [if_pos (by kernel_rfl)]
       go_simp
       (with_reducible refine (Hst.out _).mono ?_)
       rintro e w9 ⟨rfl, hb9⟩
       have H9 := below_tr hHeld hb9
       try have zz9 := blk_keep (w := (w8.alloc zpO).drew) (heap_alloc_new w8 zpO) hb9
       try have lz9 := lt_of_block zz9
       try have fz9 := blk_free zz9
       try have cz9 := blk_cell zz9
       go_simp
       refine hK.out _ _ (below_tr hHeld hb9) (fun hHeld2 => ?_)
       clear hK K
       try clear hHeld
       have hHeld := hHeld2
       try clear hHeld2
       refine Ra.W 10 ?_ ?_ hHeld ?_
       rotate_left
       · intro wq hSw
         go_simp
         try with_reducible rfl
       try simp only [Act.put, List.getElem_toArray, List.getElem_cons_succ, List.getElem_cons_zero, List.setIfInBounds_toArray, List.set_cons_zero, List.set_cons_succ]
       refine Ra.W 11 ?_ ?_ hHeld ?_
       rotate_left
       · intro wq hSw
         go_simp
         try with_reducible rfl
       try simp only [Act.put, List.getElem_toArray, List.getElem_cons_succ, List.getElem_cons_zero, List.setIfInBounds_toArray, List.set_cons_zero, List.set_cons_succ]
       refine Ra.W 12 ?_ ?_ hHeld ?_
       rotate_left
       · intro wq hSw
         go_simp
         try with_reducible rfl
       try simp only [Act.put, List.getElem_toArray, List.getElem_cons_succ, List.getElem_cons_zero, List.setIfInBounds_toArray, List.set_cons_zero, List.set_cons_succ]
       refine wpAnyH_ready (rs := [13]) (by kernel_rfl) (by simp) ?_
       refine AllReadyH.cons rfl (fun K hK => ?_) AllReadyH.nil
       rw [if_pos (by kernel_rfl)]
       go_simp
       skip
       refine hK.out _ _ (below_al hHeld _) (fun hHeld2 => ?_)
       clear hK K
       try clear hHeld
       have hHeld := hHeld2
       try clear hHeld2
       refine wpAnyH_ready (rs := [14]) (by kernel_rfl) (by simp) ?_
       refine AllReadyH.cons rfl (fun K hK => ?_) AllReadyH.nil
       rw [if_pos (by kernel_rfl)]
       go_simp
       skip
       refine hK.out _ _ ((by first | with_reducible exact below_al H9 _ | with_reducible exact below_set4 hHeld (Nat.le_refl _) _ _ _ _)) (fun hHeld2 => ?_)
       clear hK K
       try clear hHeld
       have hHeld := hHeld2
       try clear hHeld2
       refine Ra.W 15 ?_ ?_ hHeld ?_
       rotate_left
       · intro wq hSw
         go_simp
         try with_reducible rfl
       try simp only [Act.put, List.getElem_toArray, List.getElem_cons_succ, List.getElem_cons_zero, List.setIfInBounds_toArray, List.set_cons_zero, List.set_cons_succ]
       refine wpAnyH_done (by kernel_rfl) ?_ _
       (first | have zz7 := set4_same zz9 (.int .i64 1) (.int .i64 D') (.int .i64 0) (.string (ED D' m)) | have zz7 := heap_alloc_new w9 (pagO 1 D' 0 (ED D' m)))
       have HB7 := Lib.hid hHeld
       have ZZ7 := Lib.hid zz7
       clear hHeld zz7
       go_wp2_with fail
       go_meet
       exact ⟨_, rfl, rfl, ZZ7, HB7⟩
     · rw [if_pos (by kernel_rfl)]
       go_simp
       skip
       refine hK.out _ _ (below_al hHeld _) (fun hHeld2 => ?_)
       clear hK K
       try clear hHeld
       have hHeld := hHeld2
       try clear hHeld2
       refine wpAnyH_ready (rs := [9]) (by kernel_rfl) (by simp) ?_
       refine AllReadyH.cons rfl (fun K hK => ?_) AllReadyH.nil
       rw [if_pos (by kernel_rfl)]
       go_simp
       (with_reducible refine (Hst.out _).mono ?_)
       rintro e w9 ⟨rfl, hb9⟩
       have H9 := below_tr hHeld hb9
       try have zz9 := blk_keep (w := (w8.alloc zpO).drew) (heap_alloc_new w8 zpO) hb9
       try have lz9 := lt_of_block zz9
       try have fz9 := blk_free zz9
       try have cz9 := blk_cell zz9
       go_simp
       refine hK.out _ _ (below_tr hHeld hb9) (fun hHeld2 => ?_)
       clear hK K
       try clear hHeld
       have hHeld := hHeld2
       try clear hHeld2
       refine Ra.W 10 ?_ ?_ hHeld ?_
       rotate_left
       · intro wq hSw
         go_simp
         try with_reducible rfl
       try simp only [Act.put, List.getElem_toArray, List.getElem_cons_succ, List.getElem_cons_zero, List.setIfInBounds_toArray, List.set_cons_zero, List.set_cons_succ]
       refine Ra.W 11 ?_ ?_ hHeld ?_
       rotate_left
       · intro wq hSw
         go_simp
         try with_reducible rfl
       try simp only [Act.put, List.getElem_toArray, List.getElem_cons_succ, List.getElem_cons_zero, List.setIfInBounds_toArray, List.set_cons_zero, List.set_cons_succ]
       refine Ra.W 12 ?_ ?_ hHeld ?_
       rotate_left
       · intro wq hSw
         go_simp
         try with_reducible rfl
       try simp only [Act.put, List.getElem_toArray, List.getElem_cons_succ, List.getElem_cons_zero, List.setIfInBounds_toArray, List.set_cons_zero, List.set_cons_succ]
       refine wpAnyH_ready (rs := [14]) (by kernel_rfl) (by simp) ?_
       refine AllReadyH.cons rfl (fun K hK => ?_) AllReadyH.nil
       rw [if_pos (by kernel_rfl)]
       go_simp
       skip
       refine hK.out _ _ ((by first | with_reducible exact below_al H9 _ | with_reducible exact below_set4 hHeld (Nat.le_refl _) _ _ _ _)) (fun hHeld2 => ?_)
       clear hK K
       try clear hHeld
       have hHeld := hHeld2
       try clear hHeld2
       refine Ra.W 15 ?_ ?_ hHeld ?_
       rotate_left
       · intro wq hSw
         go_simp
         try with_reducible rfl
       try simp only [Act.put, List.getElem_toArray, List.getElem_cons_succ, List.getElem_cons_zero, List.setIfInBounds_toArray, List.set_cons_zero, List.set_cons_succ]
       refine wpAnyH_done (by kernel_rfl) ?_ _
       (first | have zz7 := set4_same zz9 (.int .i64 1) (.int .i64 D') (.int .i64 0) (.string (ED D' m)) | have zz7 := heap_alloc_new w9 (pagO 1 D' 0 (ED D' m)))
       have HB7 := Lib.hid hHeld
       have ZZ7 := Lib.hid zz7
       clear hHeld zz7
       go_wp2_with fail
       go_meet
       exact ⟨_, rfl, rfl, ZZ7, HB7⟩
    case rest =>
     obtain ⟨q, rfl, rfl, hpg, hbl⟩ := hcut
     obtain ⟨eD, eN, eC, eED, eZ, eS0, eS1⟩ := EQ.out
     obtain ⟨PD, hPD⟩ : ∃ p : Pag, p = ⟨1, (D' : Nat), 0, Dr.bodyOf (entsF D' (t.upd (sumF key) d (halfT d (t.at' (sumF key)) m)))⟩ := ⟨_, rfl⟩
     obtain ⟨PA, hPA⟩ : ∃ p : Pag, p = ⟨3, ((d + 1 : Nat) : Int), 0, bodyF (cs.filter (bitF d))⟩ := ⟨_, rfl⟩
     obtain ⟨PB, hPB⟩ : ∃ p : Pag, p = ⟨3, ((d + 1 : Nat) : Int), 0, bodyF (cs.filter (fun c => !bitF d c))⟩ := ⟨_, rfl⟩
     have ed : ((d + 1 : Nat) : Int) = (d : Int) + 1 := by omega
     have vD : PD.v = .agg #[.int .i64 1, .int .i64 (D' : Nat), .int .i64 0, .string (ED D' m)] := by rw [hPD, ← eED]; rfl
     have vA : PA.v = .agg #[.int .i64 3, .int .i64 ((d : Int) + 1), .int .i64 0, .string S0] := by rw [hPA, eS0, ← ed]; rfl
     have vB : PB.v = .agg #[.int .i64 3, .int .i64 ((d : Int) + 1), .int .i64 0, .string S1] := by rw [hPB, eS1, ← ed]; rfl
     have okD : PD.ok := by rw [hPD]; exact Pag.ok_mk (by omega) (by omega) (by omega) (HLD.out D' m HDD.out h5' ⟨h2, h3⟩)
     have okA : PA.ok := by rw [hPA]; exact Pag.ok_mk (by omega) (by omega) (by omega) (bodyF_len (HFIT.out.filter _))
     have okB : PB.ok := by rw [hPB]; exact Pag.ok_mk (by omega) (by omega) (by omega) (bodyF_len (HFIT.out.filter _))
     have hp0 : Hid (∀ W px, GV w0 W gb mb sb qb c n px (tk0 + ((numsF t.leaves).length : Int) + 1) → Calls Tryz.prog 75 #[.pointer (some ⟨gb, 0, none⟩), .int .i64 0, .agg #[.int .i64 1, .int .i64 (D' : Nat), .int .i64 0, .string (ED D' m)]] W fun e w' => e = .returned (.int .i64 0) ∧ GV w0 w' gb mb sb qb c n (updN px 0 PD) (tk0 + ((numsF t.leaves).length : Int) + 1) ∧ Wk w0.heap.size gb mb W w') := Lib.hid (fun W px hW => by
      have h := hW.putW 0 (by omega) PD okD
      rw [vD] at h
      exact h)
     have hp1 : Hid (∀ W px, GV w0 W gb mb sb qb c n px (tk0 + ((numsF t.leaves).length : Int) + 1) → Calls Tryz.prog 75 #[.pointer (some ⟨gb, 0, none⟩), .int .i64 NB, .agg #[.int .i64 3, .int .i64 ((d : Int) + 1), .int .i64 0, .string S0]] W fun e w' => e = .returned (.int .i64 0) ∧ GV w0 w' gb mb sb qb c n (updN px NB PA) (tk0 + ((numsF t.leaves).length : Int) + 1) ∧ Wk w0.heap.size gb mb W w') := Lib.hid (fun W px hW => by
      have h := hW.putW NB hrng.2 PA okA
      rw [vA] at h
      exact h)
     have hp2 : Hid (∀ W px, GV w0 W gb mb sb qb c n px (tk0 + ((numsF t.leaves).length : Int) + 1) → Calls Tryz.prog 75 #[.pointer (some ⟨gb, 0, none⟩), .int .i64 m, .agg #[.int .i64 3, .int .i64 ((d : Int) + 1), .int .i64 0, .string S1]] W fun e w' => e = .returned (.int .i64 0) ∧ GV w0 w' gb mb sb qb c n (updN px m PB) (tk0 + ((numsF t.leaves).length : Int) + 1) ∧ Wk w0.heap.size gb mb W w') := Lib.hid (fun W px hW => by
      have h := hW.putW m h3 PB okB
      rw [vB] at h
      exact h)
     have HPP : Hid (splitPg pg md mx ml D' t (sumF key) m = updN (updN (updN (updN pg 1 ⟨2, md, mx, ml.set m 1⟩) 0 PD) NB PA) m PB) := Lib.hid (by
      subst eD eN eC
      rw [hPD, hPA, hPB]
      rfl)
     have HF : Hid (∀ w', GV w0 w' gb mb sb qb c n (splitPg pg md mx ml D' t (sumF key) m) (tk0 + ((numsF t.leaves).length : Int) + 1) → SplitPost w0 gb mb sb qb c n pg D t ml X tk0 (sumF key) (.returned (.int .i64 0)) w') := Lib.hid (fun w' hw => HFIN.out D' m HDD.out hd' h5' HTI.out w' hw)
     clear eD eN eC eED eZ eS0 eS1 ed vD vA vB okD okA okB hPD hPA hPB
     have Bc := Lib.hid (below_tr (below_tr B7.out B8.out) hbl.out)
     have GC := Lib.hid (G4.out.rk Bc.out)
     have KW := Lib.hid ((K4.out).trans (Wk.of_below Bc.out))
     have HTd := Lib.hid (blk_keep HT8.out hbl.out)
     have CBd := Lib.hid (blk_keep CB8.out hbl.out)
     have NBd := Lib.hid (blk_keep NB8.out hbl.out)
     have PZd := Lib.hid (blk_keep PZ8.out hbl.out)
     have OAd := Lib.hid (own_below OA8.out hbl.out)
     have OBd := Lib.hid (own_below OB8.out hbl.out)
     have hsz6 := HW6.out
     have hs4 : W.heap.size < w4.heap.size := by have h := K4.out.size; omega
     go_wp2_with fail
     refine Ra.wp_region_A (S := (Bz wc)) [3, 4] (by kernel_rfl) (below_dr (Below.refl _ _)) (fun hHeld => ?_)
     refine Ra.WT 0 ?_ ?_ ?_
     rotate_left
     · intro wq hSw
       go_simp
       try with_reducible rfl
     try simp only [Act.put, List.getElem_toArray, List.getElem_cons_succ, List.getElem_cons_zero, List.setIfInBounds_toArray, List.set_cons_zero, List.set_cons_succ]
     refine Ra.WT 1 ?_ ?_ ?_
     rotate_left
     · intro wq hSw
       go_simp
       try with_reducible rfl
     try simp only [Act.put, List.getElem_toArray, List.getElem_cons_succ, List.getElem_cons_zero, List.setIfInBounds_toArray, List.set_cons_zero, List.set_cons_succ]
     refine Ra.WT 2 ?_ ?_ ?_
     rotate_left
     · intro wq hSw
       go_simp
       try with_reducible rfl
     try simp only [Act.put, List.getElem_toArray, List.getElem_cons_succ, List.getElem_cons_zero, List.setIfInBounds_toArray, List.set_cons_zero, List.set_cons_succ]
     refine Ra.WA 3 ?_ ?_ hHeld ?_
     rotate_left
     · intro wq hSw
       have hSc := blk_cell (blk_keep HTd.out hSw); have hSl := lt_of_block (blk_keep HTd.out hSw); have hSd := blk_cell (blk_keep hpg.out hSw); have hSe := lt_of_block (blk_keep hpg.out hSw)
       go_simp
       try with_reducible rfl
     try simp only [Act.put, List.getElem_toArray, List.getElem_cons_succ, List.getElem_cons_zero, List.setIfInBounds_toArray, List.set_cons_zero, List.set_cons_succ]
     refine Ra.WA 4 ?_ ?_ hHeld ?_
     rotate_left
     · intro wq hSw
       have hSc := blk_cell (blk_keep HTd.out hSw); have hSl := lt_of_block (blk_keep HTd.out hSw); have hSd := blk_cell (blk_keep hpg.out hSw); have hSe := lt_of_block (blk_keep hpg.out hSw)
       go_simp
       try with_reducible rfl
     try simp only [Act.put, List.getElem_toArray, List.getElem_cons_succ, List.getElem_cons_zero, List.setIfInBounds_toArray, List.set_cons_zero, List.set_cons_succ]
     refine Ra.wpA_ready (rs := [5]) (by kernel_rfl) (by simp) ?_
     refine Ra.AllReadyA.late rfl rfl (fun K hK => ?_) Ra.AllReadyA.nil
     rw [if_pos (by kernel_rfl)]
     go_simp
     (with_reducible refine (hp0.out _ _ (GC.out.rk (below_dr (Below.refl _ _)))).mono ?_)
     rintro e wd ⟨rfl, gd, kd⟩
     have Gd := Lib.hid gd
     have Kd : Hid (Wk w0.heap.size gb mb wc wd) := Lib.hid ((Wk.of_below (below_dr (Below.refl _ wc))).trans kd)
     clear gd kd
     go_simp
     refine hK.out _ _ (trivial) (fun hHeld2 => ?_)
     clear hK K
     try clear hHeld
     have hHeld := hHeld2
     try clear hHeld2
     refine Ra.WT 6 ?_ ?_ ?_
     rotate_left
     · intro wq hSw
       go_simp
       try with_reducible rfl
     try simp only [Act.put, List.getElem_toArray, List.getElem_cons_succ, List.getElem_cons_zero, List.setIfInBounds_toArray, List.set_cons_zero, List.set_cons_succ]
     refine Ra.wpA_done (by kernel_rfl) ?_ _
     clear hHeld
     have HTe := Lib.hid (Kd.out.blk HTd.out (by omega) (by omega) (by omega))
     have CBe := Lib.hid (Kd.out.blk CBd.out (by omega) (by omega) (by omega))
     have NBe := Lib.hid (Kd.out.blk NBd.out (by omega) (by omega) (by omega))
     have PZe := Lib.hid (Kd.out.blk PZd.out (by omega) (by omega) (by omega))
     have OAe := Lib.hid (Kd.out.row OAd.out (by omega) (by omega) (by omega))
     have OBe := Lib.hid (Kd.out.row OBd.out (by omega) (by omega) (by omega))
     clear HTd CBd NBd PZd OAd OBd
     go_wp2_with fail
     refine Ra.wp_region_A (S := (Bz wd)) [3, 7, 8, 9, 11, 12, 14] (by kernel_rfl) (below_dr (Below.refl _ _)) (fun hHeld => ?_)
     refine Ra.WT 0 ?_ ?_ ?_
     rotate_left
     · intro wq hSw
       go_simp
       try with_reducible rfl
     try simp only [Act.put, List.getElem_toArray, List.getElem_cons_succ, List.getElem_cons_zero, List.setIfInBounds_toArray, List.set_cons_zero, List.set_cons_succ]
     refine Ra.WT 1 ?_ ?_ ?_
     rotate_left
     · intro wq hSw
       go_simp
       try with_reducible rfl
     try simp only [Act.put, List.getElem_toArray, List.getElem_cons_succ, List.getElem_cons_zero, List.setIfInBounds_toArray, List.set_cons_zero, List.set_cons_succ]
     refine Ra.WT 2 ?_ ?_ ?_
     rotate_left
     · intro wq hSw
       go_simp
       try with_reducible rfl
     try simp only [Act.put, List.getElem_toArray, List.getElem_cons_succ, List.getElem_cons_zero, List.setIfInBounds_toArray, List.set_cons_zero, List.set_cons_succ]
     refine Ra.WT 4 ?_ ?_ ?_
     rotate_left
     · intro wq hSw
       go_simp
       try with_reducible rfl
     try simp only [Act.put, List.getElem_toArray, List.getElem_cons_succ, List.getElem_cons_zero, List.setIfInBounds_toArray, List.set_cons_zero, List.set_cons_succ]
     refine Ra.WT 5 ?_ ?_ ?_
     rotate_left
     · intro wq hSw
       go_simp
       try with_reducible rfl
     try simp only [Act.put, List.getElem_toArray, List.getElem_cons_succ, List.getElem_cons_zero, List.setIfInBounds_toArray, List.set_cons_zero, List.set_cons_succ]
     refine Ra.WT 6 ?_ ?_ ?_
     rotate_left
     · intro wq hSw
       go_simp
       try with_reducible rfl
     try simp only [Act.put, List.getElem_toArray, List.getElem_cons_succ, List.getElem_cons_zero, List.setIfInBounds_toArray, List.set_cons_zero, List.set_cons_succ]
     refine Ra.WT 10 ?_ ?_ ?_
     rotate_left
     · intro wq hSw
       go_simp
       try with_reducible rfl
     try simp only [Act.put, List.getElem_toArray, List.getElem_cons_succ, List.getElem_cons_zero, List.setIfInBounds_toArray, List.set_cons_zero, List.set_cons_succ]
     refine Ra.WT 13 ?_ ?_ ?_
     rotate_left
     · intro wq hSw
       go_simp
       try with_reducible rfl
     try simp only [Act.put, List.getElem_toArray, List.getElem_cons_succ, List.getElem_cons_zero, List.setIfInBounds_toArray, List.set_cons_zero, List.set_cons_succ]
     refine Ra.WA 3 ?_ ?_ hHeld ?_
     rotate_left
     · intro wq hSw
       have hSc := blk_cell (blk_keep HTe.out hSw); have hSl := lt_of_block (blk_keep HTe.out hSw); have hSd := blk_cell (blk_keep PZe.out hSw); have hSe := lt_of_block (blk_keep PZe.out hSw); have hSf := blk_cell (blk_keep CBe.out hSw); have hSg := lt_of_block (blk_keep CBe.out hSw); have hSh := (blk_cell (blk_keep NBe.out hSw) 0).trans Hcur.out; have hSi := lt_of_block (blk_keep NBe.out hSw)
       go_simp
       try with_reducible rfl
     try simp only [Act.put, List.getElem_toArray, List.getElem_cons_succ, List.getElem_cons_zero, List.setIfInBounds_toArray, List.set_cons_zero, List.set_cons_succ]
     refine Ra.WA 7 ?_ ?_ hHeld ?_
     rotate_left
     · intro wq hSw
       have hSc := blk_cell (blk_keep HTe.out hSw); have hSl := lt_of_block (blk_keep HTe.out hSw); have hSd := blk_cell (blk_keep PZe.out hSw); have hSe := lt_of_block (blk_keep PZe.out hSw); have hSf := blk_cell (blk_keep CBe.out hSw); have hSg := lt_of_block (blk_keep CBe.out hSw); have hSh := (blk_cell (blk_keep NBe.out hSw) 0).trans Hcur.out; have hSi := lt_of_block (blk_keep NBe.out hSw)
       go_simp
       try with_reducible rfl
     try simp only [Act.put, List.getElem_toArray, List.getElem_cons_succ, List.getElem_cons_zero, List.setIfInBounds_toArray, List.set_cons_zero, List.set_cons_succ]
     refine Ra.WA 8 ?_ ?_ hHeld ?_
     rotate_left
     · intro wq hSw
       have hSc := blk_cell (blk_keep HTe.out hSw); have hSl := lt_of_block (blk_keep HTe.out hSw); have hSd := blk_cell (blk_keep PZe.out hSw); have hSe := lt_of_block (blk_keep PZe.out hSw); have hSf := blk_cell (blk_keep CBe.out hSw); have hSg := lt_of_block (blk_keep CBe.out hSw); have hSh := (blk_cell (blk_keep NBe.out hSw) 0).trans Hcur.out; have hSi := lt_of_block (blk_keep NBe.out hSw)
       go_simp
       try rw [if_neg (by omega)]
       try rw [if_pos (by omega)]
       try with_reducible rfl
     try simp only [Act.put, List.getElem_toArray, List.getElem_cons_succ, List.getElem_cons_zero, List.setIfInBounds_toArray, List.set_cons_zero, List.set_cons_succ]
     refine Ra.WA 9 ?_ ?_ hHeld ?_
     rotate_left
     · intro wq hSw
       have hSc := blk_cell (blk_keep HTe.out hSw); have hSl := lt_of_block (blk_keep HTe.out hSw); have hSd := blk_cell (blk_keep PZe.out hSw); have hSe := lt_of_block (blk_keep PZe.out hSw); have hSf := blk_cell (blk_keep CBe.out hSw); have hSg := lt_of_block (blk_keep CBe.out hSw); have hSh := (blk_cell (blk_keep NBe.out hSw) 0).trans Hcur.out; have hSi := lt_of_block (blk_keep NBe.out hSw)
       go_simp
       try with_reducible rfl
     try simp only [Act.put, List.getElem_toArray, List.getElem_cons_succ, List.getElem_cons_zero, List.setIfInBounds_toArray, List.set_cons_zero, List.set_cons_succ]
     refine Ra.WA 11 ?_ ?_ hHeld ?_
     rotate_left
     · intro wq hSw
       have hSc := blk_cell (blk_keep HTe.out hSw); have hSl := lt_of_block (blk_keep HTe.out hSw); have hSd := blk_cell (blk_keep PZe.out hSw); have hSe := lt_of_block (blk_keep PZe.out hSw); have hSf := blk_cell (blk_keep CBe.out hSw); have hSg := lt_of_block (blk_keep CBe.out hSw); have hSh := (blk_cell (blk_keep NBe.out hSw) 0).trans Hcur.out; have hSi := lt_of_block (blk_keep NBe.out hSw)
       go_simp
       try with_reducible rfl
     try simp only [Act.put, List.getElem_toArray, List.getElem_cons_succ, List.getElem_cons_zero, List.setIfInBounds_toArray, List.set_cons_zero, List.set_cons_succ]
     refine Ra.WA 12 ?_ ?_ hHeld ?_
     rotate_left
     · intro wq hSw
       go_simp
       try rw [if_neg (by omega)]
       try rw [if_pos (by omega)]
       try with_reducible rfl
     try simp only [Act.put, List.getElem_toArray, List.getElem_cons_succ, List.getElem_cons_zero, List.setIfInBounds_toArray, List.set_cons_zero, List.set_cons_succ]
     refine Ra.wpA_ready (rs := [14]) (by kernel_rfl) (by simp) ?_
     refine Ra.AllReadyA.cons rfl (fun K hK => ?_) Ra.AllReadyA.nil
     rw [if_pos (by kernel_rfl)]
     go_simp
     (with_reducible refine (HfA.out _ _ _ (own_below OAe.out hHeld)).mono ?_)
     rintro e wf ⟨rfl, hbf⟩
     have Hbf := Lib.hid (below_tr hHeld hbf)
     go_simp
     refine hK.out _ _ (below_tr hHeld hbf) (fun hHeld2 => ?_)
     clear hK K
     try clear hHeld
     have hHeld := hHeld2
     try clear hHeld2
     refine Ra.wpA_ready (rs := [15]) (by kernel_rfl) (by simp) ?_
     refine Ra.AllReadyA.late rfl rfl (fun K hK => ?_) Ra.AllReadyA.nil
     rw [if_pos (by kernel_rfl)]
     go_simp
     (with_reducible refine (hp1.out _ _ (Gd.out.rk Hbf.out)).mono ?_)
     rintro e wg ⟨rfl, gg, kg⟩
     have Gg := Lib.hid gg
     have Kg : Hid (Wk w0.heap.size gb mb wd wg) := Lib.hid ((Wk.of_below Hbf.out).trans kg)
     clear gg kg
     go_simp
     refine hK.out _ _ (trivial) (fun hHeld2 => ?_)
     clear hK K
     try clear hHeld
     have hHeld := hHeld2
     try clear hHeld2
     refine Ra.WT 16 ?_ ?_ ?_
     rotate_left
     · intro wq hSw
       go_simp
       try with_reducible rfl
     try simp only [Act.put, List.getElem_toArray, List.getElem_cons_succ, List.getElem_cons_zero, List.setIfInBounds_toArray, List.set_cons_zero, List.set_cons_succ]
     refine Ra.wpA_done (by kernel_rfl) ?_ _
     clear hHeld hbf
     have HTf := Lib.hid (Kg.out.blk HTe.out (by omega) (by omega) (by omega))
     have PZf := Lib.hid (Kg.out.blk PZe.out (by omega) (by omega) (by omega))
     have OBf := Lib.hid (Kg.out.row OBe.out (by omega) (by omega) (by omega))
     clear HTe CBe NBe PZe OAe OBe
     go_wp2_with fail
     refine Ra.wp_region_A (S := (Bz wg)) [3, 6, 7, 9] (by kernel_rfl) (below_dr (Below.refl _ _)) (fun hHeld => ?_)
     refine Ra.WT 0 ?_ ?_ ?_
     rotate_left
     · intro wq hSw
       go_simp
       try with_reducible rfl
     try simp only [Act.put, List.getElem_toArray, List.getElem_cons_succ, List.getElem_cons_zero, List.setIfInBounds_toArray, List.set_cons_zero, List.set_cons_succ]
     refine Ra.WT 1 ?_ ?_ ?_
     rotate_left
     · intro wq hSw
       go_simp
       try with_reducible rfl
     try simp only [Act.put, List.getElem_toArray, List.getElem_cons_succ, List.getElem_cons_zero, List.setIfInBounds_toArray, List.set_cons_zero, List.set_cons_succ]
     refine Ra.WT 2 ?_ ?_ ?_
     rotate_left
     · intro wq hSw
       go_simp
       try with_reducible rfl
     try simp only [Act.put, List.getElem_toArray, List.getElem_cons_succ, List.getElem_cons_zero, List.setIfInBounds_toArray, List.set_cons_zero, List.set_cons_succ]
     refine Ra.WT 4 ?_ ?_ ?_
     rotate_left
     · intro wq hSw
       go_simp
       try with_reducible rfl
     try simp only [Act.put, List.getElem_toArray, List.getElem_cons_succ, List.getElem_cons_zero, List.setIfInBounds_toArray, List.set_cons_zero, List.set_cons_succ]
     refine Ra.WT 5 ?_ ?_ ?_
     rotate_left
     · intro wq hSw
       go_simp
       try with_reducible rfl
     try simp only [Act.put, List.getElem_toArray, List.getElem_cons_succ, List.getElem_cons_zero, List.setIfInBounds_toArray, List.set_cons_zero, List.set_cons_succ]
     refine Ra.WT 8 ?_ ?_ ?_
     rotate_left
     · intro wq hSw
       go_simp
       try with_reducible rfl
     try simp only [Act.put, List.getElem_toArray, List.getElem_cons_succ, List.getElem_cons_zero, List.setIfInBounds_toArray, List.set_cons_zero, List.set_cons_succ]
     refine Ra.WA 3 ?_ ?_ hHeld ?_
     rotate_left
     · intro wq hSw
       have hSc := blk_cell (blk_keep HTf.out hSw); have hSl := lt_of_block (blk_keep HTf.out hSw); have hSd := blk_cell (blk_keep PZf.out hSw); have hSe := lt_of_block (blk_keep PZf.out hSw)
       go_simp
       try with_reducible rfl
     try simp only [Act.put, List.getElem_toArray, List.getElem_cons_succ, List.getElem_cons_zero, List.setIfInBounds_toArray, List.set_cons_zero, List.set_cons_succ]
     refine Ra.WA 6 ?_ ?_ hHeld ?_
     rotate_left
     · intro wq hSw
       have hSc := blk_cell (blk_keep HTf.out hSw); have hSl := lt_of_block (blk_keep HTf.out hSw); have hSd := blk_cell (blk_keep PZf.out hSw); have hSe := lt_of_block (blk_keep PZf.out hSw)
       go_simp
       try with_reducible rfl
     try simp only [Act.put, List.getElem_toArray, List.getElem_cons_succ, List.getElem_cons_zero, List.setIfInBounds_toArray, List.set_cons_zero, List.set_cons_succ]
     refine Ra.WA 7 ?_ ?_ hHeld ?_
     rotate_left
     · intro wq hSw
       go_simp
       try rw [if_neg (by omega)]
       try rw [if_pos (by omega)]
       try with_reducible rfl
     try simp only [Act.put, List.getElem_toArray, List.getElem_cons_succ, List.getElem_cons_zero, List.setIfInBounds_toArray, List.set_cons_zero, List.set_cons_succ]
     refine Ra.wpA_ready (rs := [9]) (by kernel_rfl) (by simp) ?_
     refine Ra.AllReadyA.cons rfl (fun K hK => ?_) Ra.AllReadyA.nil
     rw [if_pos (by kernel_rfl)]
     go_simp
     (with_reducible refine (HfB.out _ _ _ (own_below OBf.out hHeld)).mono ?_)
     rintro e wh ⟨rfl, hbh⟩
     have Hbh := Lib.hid (below_tr hHeld hbh)
     go_simp
     refine hK.out _ _ (below_tr hHeld hbh) (fun hHeld2 => ?_)
     clear hK K
     try clear hHeld
     have hHeld := hHeld2
     try clear hHeld2
     refine Ra.wpA_ready (rs := [10]) (by kernel_rfl) (by simp) ?_
     refine Ra.AllReadyA.late rfl rfl (fun K hK => ?_) Ra.AllReadyA.nil
     rw [if_pos (by kernel_rfl)]
     go_simp
     (with_reducible refine (hp2.out _ _ (Gg.out.rk Hbh.out)).mono ?_)
     rintro e wi ⟨rfl, gi, ki⟩
     have Gi := Lib.hid gi
     have Ki : Hid (Wk w0.heap.size gb mb wg wi) := Lib.hid ((Wk.of_below Hbh.out).trans ki)
     clear gi ki
     go_simp
     refine hK.out _ _ (trivial) (fun hHeld2 => ?_)
     clear hK K
     try clear hHeld
     have hHeld := hHeld2
     try clear hHeld2
     refine Ra.WT 11 ?_ ?_ ?_
     rotate_left
     · intro wq hSw
       go_simp
       try with_reducible rfl
     try simp only [Act.put, List.getElem_toArray, List.getElem_cons_succ, List.getElem_cons_zero, List.setIfInBounds_toArray, List.set_cons_zero, List.set_cons_succ]
     refine Ra.wpA_done (by kernel_rfl) ?_ _
     clear hHeld hbh
     have FIN := Lib.hid (HF.out _ (by rw [HPP.out]; exact Gi.out))
     have FCK := Lib.hid ((Ck.of_keep (B := w0.heap.size) (gb := gb) (mb := mb) (C := C) KC.out (fun q hq => by omega)).trans (.of_wk (((KW.out.trans Kd.out).trans Kg.out).trans Ki.out)))
     go_wp2_with fail
     go_ret
     exact ⟨FIN.out, FCK.out⟩
end Go.Proofs.YtijhamllnnilbaaGreatDoor.Ha
