/- Lemmas of the claim, in their order:
- The contracts of hash's bucket, put.
-/
import Derived.Test.YtijhamllnnilbaaGreatDoorR21
set_option linter.unusedVariables false
set_option linter.unusedSimpArgs false
namespace Go.Proofs.YtijhamllnnilbaaGreatDoor.Ha
open Go.RowKit Go.Proofs.YtijhamllnnilbaaGreatDoor.Mem Go.Proofs.YtijhamllnnilbaaGreatDoor.Pg Go.Proofs.YtijhamllnnilbaaGreatDoor.Kp Go.Proofs.YtijhamllnnilbaaGreatDoor.Sp Go.Proofs.YtijhamllnnilbaaGreatDoor.Gr
set_option linter.unusedSimpArgs false
set_option linter.unusedVariables false
theorem Ch.mono {C C' : Nat} {w : World} {cb gb : Nat} {L : List (Nat × Pag)} (h : Ch C w cb gb L) (hC : C' ≤ C) : Ch C' w cb gb L := by
 obtain ⟨nv, pv, h1, h2, h3, h4⟩ := h.ex
 exact ⟨⟨nv, pv, h1, row_mono h2 hC, row_mono h3 hC, h4⟩, Nat.le_trans hC h.base⟩
abbrev tbO (gb D : Nat) (S : ByteArray) : Obj := .cells #[.pointer (some ⟨gb, 0, none⟩), .int .i64 1, .int .i64 (D : Int), .int .i64 0, .string S] 166
set_option maxRecDepth 100000 in
set_option maxHeartbeats 4000000 in
theorem bucket_ok (w0 w : World) (gb mb sb qb c n D tb : Nat) (pg : Nat → Pag) (tk : Int) (t : Tri) (key : List UInt8) (h : GV w0 w gb mb sb qb c n pg tk) (T : Tb n pg D t) (hk : key.length ≤ 1000)
 (htb : w.heap[tb]? = some (tbO gb D (Dr.bdy (entsF D t)))) (hge : w0.heap.size ≤ tb) :
 Calls Tryz.prog 51 #[.pointer (some ⟨tb, 0, none⟩), .string (str key)] w fun e w' => ∃ cb, e = .returned (.tuple #[.pointer (some ⟨cb, 0, none⟩), .int .i64 0]) ∧
  Ch w.heap.size w' cb gb ((t.at' (sumF key)).pags (t.dep (sumF key))) ∧ GV w0 w' gb mb sb qb c n pg tk ∧ Rk w0.heap.size w w' := by
 have h64 := h.n64
 have hD := T.d5
 have hbits := fun W => bits_any key D (by omega) W (by omega)
 have hb2 : bitsF key D < 2 ^ D := Nat.mod_lt _ (Nat.two_pow_pos D)
 have hat := fun W => Dr.good_at (T.good h64) (bitsF key D) (by rw [entsF_len]; exact hb2) W
 have hent : (entsF D t)[bitsF key D]'(by rw [entsF_len]; exact hb2) = ((t.at' (sumF key)).n : Int) := by
  have h1 := entsF_get D t (bitsF key D) hb2
  rw [List.getElem?_eq_getElem (by rw [entsF_len]; exact hb2)] at h1
  injection h1 with h1
  rw [h1]
  unfold bitsF
  rw [(t.at_mod (sumF key) D (Nat.le_trans (t.dep_le _) T.hi)).1]
 have hgd : (entsF D t).getD (bitsF key D) 0 = ((t.at' (sumF key)).n : Int) := by
  rw [List.getD_eq_getElem?_getD, List.getElem?_eq_getElem (by rw [entsF_len]; exact hb2), Option.getD_some, hent]
 rw [hgd] at hat
 have hread := fun W (hW : GV w0 W gb mb sb qb c n pg tk) => read_ok w0 W gb mb sb qb c n (t.dep (sumF key)) pg tk (t.at' (sumF key)) hW (T.chn h64 (sumF key))
 obtain ⟨S, hS⟩ : ∃ S, S = Dr.bdy (entsF D t) := ⟨_, rfl⟩
 rw [← hS] at htb hat
 obtain ⟨U, hU⟩ : ∃ U, U = str key := ⟨_, rfl⟩
 rw [← hU] at hbits ⊢
 obtain ⟨L, hL⟩ : ∃ L, L = (t.at' (sumF key)).pags (t.dep (sumF key)) := ⟨_, rfl⟩
 rw [← hL] at hread ⊢
 generalize (t.at' (sumF key)).n = bn at *
 generalize bitsF key D = bk at *
 have H := Lib.hid h
 have Htb := Lib.hid htb
 have Hread := Lib.hid hread
 clear h T hgd hent hS hU hL htb hread hb2
 go_enter Tryz.func51, Tryz.ntmps51
 go_wp2_with fail
 refine wp_region_held_drew (S := (fun W => W.heap[tb]? = some (tbO gb D S) ∧ GV w0 W gb mb sb qb c n pg tk ∧ Rk w0.heap.size w W)) (by kernel_rfl) (⟨Htb.out, H.out.rk (below_dr (Below.refl _ _)), .of_below (below_dr (Below.refl _ _))⟩) (fun hHeld => ?_)
 refine Ra.W 0 ?_ ?_ hHeld ?_
 rotate_left
 · intro wq hSw
   go_simp
   try with_reducible rfl
 try simp only [Act.put, List.getElem_toArray, List.getElem_cons_succ, List.getElem_cons_zero, List.setIfInBounds_toArray, List.set_cons_zero, List.set_cons_succ]
 refine Ra.W 1 ?_ ?_ hHeld ?_
 rotate_left
 · intro wq hSw
   go_simp
   try with_reducible rfl
 try simp only [Act.put, List.getElem_toArray, List.getElem_cons_succ, List.getElem_cons_zero, List.setIfInBounds_toArray, List.set_cons_zero, List.set_cons_succ]
 refine Ra.W 2 ?_ ?_ hHeld ?_
 rotate_left
 · intro wq hSw
   go_simp
   try with_reducible rfl
 try simp only [Act.put, List.getElem_toArray, List.getElem_cons_succ, List.getElem_cons_zero, List.setIfInBounds_toArray, List.set_cons_zero, List.set_cons_succ]
 refine Ra.W 3 ?_ ?_ hHeld ?_
 rotate_left
 · intro wq hSw
   have hSc := blk_cell hSw.1; have hSl := lt_of_block hSw.1
   go_simp
   try with_reducible rfl
 try simp only [Act.put, List.getElem_toArray, List.getElem_cons_succ, List.getElem_cons_zero, List.setIfInBounds_toArray, List.set_cons_zero, List.set_cons_succ]
 refine Ra.W 4 ?_ ?_ hHeld ?_
 rotate_left
 · intro wq hSw
   go_simp
   try with_reducible rfl
 try simp only [Act.put, List.getElem_toArray, List.getElem_cons_succ, List.getElem_cons_zero, List.setIfInBounds_toArray, List.set_cons_zero, List.set_cons_succ]
 refine Ra.W 5 ?_ ?_ hHeld ?_
 rotate_left
 · intro wq hSw
   go_simp
   try with_reducible rfl
 try simp only [Act.put, List.getElem_toArray, List.getElem_cons_succ, List.getElem_cons_zero, List.setIfInBounds_toArray, List.set_cons_zero, List.set_cons_succ]
 refine Ra.W 6 ?_ ?_ hHeld ?_
 rotate_left
 · intro wq hSw
   go_simp
   try with_reducible rfl
 try simp only [Act.put, List.getElem_toArray, List.getElem_cons_succ, List.getElem_cons_zero, List.setIfInBounds_toArray, List.set_cons_zero, List.set_cons_succ]
 refine Ra.W 7 ?_ ?_ hHeld ?_
 rotate_left
 · intro wq hSw
   go_simp
   try with_reducible rfl
 try simp only [Act.put, List.getElem_toArray, List.getElem_cons_succ, List.getElem_cons_zero, List.setIfInBounds_toArray, List.set_cons_zero, List.set_cons_succ]
 refine Ra.W 8 ?_ ?_ hHeld ?_
 rotate_left
 · intro wq hSw
   go_simp
   try with_reducible rfl
 try simp only [Act.put, List.getElem_toArray, List.getElem_cons_succ, List.getElem_cons_zero, List.setIfInBounds_toArray, List.set_cons_zero, List.set_cons_succ]
 refine Ra.W 9 ?_ ?_ hHeld ?_
 rotate_left
 · intro wq hSw
   have hSc := blk_cell hSw.1; have hSl := lt_of_block hSw.1
   go_simp
   try with_reducible rfl
 try simp only [Act.put, List.getElem_toArray, List.getElem_cons_succ, List.getElem_cons_zero, List.setIfInBounds_toArray, List.set_cons_zero, List.set_cons_succ]
 refine wpAnyH_ready (rs := [10]) (by kernel_rfl) (by simp) ?_
 refine AllReadyH.cons rfl (fun K hK => ?_) AllReadyH.nil
 rw [if_pos (by kernel_rfl)]
 go_simp
 (with_reducible refine (hbits _).mono ?_)
 rintro e w1 ⟨rfl, hb1⟩
 go_simp
 refine hK.out _ _ (⟨blk_keep hHeld.1 hb1, hHeld.2.1.rk hb1, hHeld.2.2.below hb1⟩) (fun hHeld2 => ?_)
 clear hK K
 try clear hHeld
 have hHeld := hHeld2
 try clear hHeld2
 refine wpAnyH_ready (rs := [11]) (by kernel_rfl) (by simp) ?_
 refine AllReadyH.cons rfl (fun K hK => ?_) AllReadyH.nil
 rw [if_pos (by kernel_rfl)]
 go_simp
 (with_reducible refine (hat _).mono ?_)
 rintro e w2 ⟨rfl, hb2⟩
 go_simp
 refine hK.out _ _ (⟨blk_keep hHeld.1 hb2, hHeld.2.1.rk hb2, hHeld.2.2.below hb2⟩) (fun hHeld2 => ?_)
 clear hK K
 try clear hHeld
 have hHeld := hHeld2
 try clear hHeld2
 refine Ra.W 12 ?_ ?_ hHeld ?_
 rotate_left
 · intro wq hSw
   go_simp
   try with_reducible rfl
 try simp only [Act.put, List.getElem_toArray, List.getElem_cons_succ, List.getElem_cons_zero, List.setIfInBounds_toArray, List.set_cons_zero, List.set_cons_succ]
 refine Ra.W 13 ?_ ?_ hHeld ?_
 rotate_left
 · intro wq hSw
   go_simp
   try with_reducible rfl
 try simp only [Act.put, List.getElem_toArray, List.getElem_cons_succ, List.getElem_cons_zero, List.setIfInBounds_toArray, List.set_cons_zero, List.set_cons_succ]
 refine Ra.W 14 ?_ ?_ hHeld ?_
 rotate_left
 · intro wq hSw
   go_simp
   try with_reducible rfl
 try simp only [Act.put, List.getElem_toArray, List.getElem_cons_succ, List.getElem_cons_zero, List.setIfInBounds_toArray, List.set_cons_zero, List.set_cons_succ]
 refine Ra.W 15 ?_ ?_ hHeld ?_
 rotate_left
 · intro wq hSw
   go_simp
   try with_reducible rfl
 try simp only [Act.put, List.getElem_toArray, List.getElem_cons_succ, List.getElem_cons_zero, List.setIfInBounds_toArray, List.set_cons_zero, List.set_cons_succ]
 refine Ra.W 16 ?_ ?_ hHeld ?_
 rotate_left
 · intro wq hSw
   go_simp
   try with_reducible rfl
 try simp only [Act.put, List.getElem_toArray, List.getElem_cons_succ, List.getElem_cons_zero, List.setIfInBounds_toArray, List.set_cons_zero, List.set_cons_succ]
 refine wpAnyH_done (by kernel_rfl) ?_ _
 have cc := blk_cell hHeld.1
 have lc := lt_of_block hHeld.1
 have HH := Lib.hid hHeld.2
 clear hHeld hb1 hb2 hbits hat
 go_wp2_with fail
 with_reducible refine (Hread.out _ HH.out.1).mono ?_
 rintro e w3 ⟨cb, rfl, hch, g3, r3⟩
 have C3 : Hid (Ch w.heap.size w3 cb gb L) := Lib.hid (hch.mono HH.out.2.size)
 have G3 := Lib.hid g3
 have R3 := Lib.hid (HH.out.2.trans r3)
 clear hch g3 r3 cc lc
 go_wp2_with fail
 go_ret2
 exact ⟨cb, rfl, C3.out, G3.out, R3.out⟩
theorem own_set4 {w : World} {base g n cap o : Nat} {e : TypeId} {xs P R : List Value} {x0 x1 x2 x3 : Value} (ho : w.ownsRow base e 4 (.slice (some ⟨g, 0, none⟩) n cap) n xs) (hxs : xs = P ++ x0 :: x1 :: x2 :: x3 :: R) (hP : P.length = o) (a b c d : Value) :
 (set4o w g o a b c d).ownsRow base e 4 (.slice (some ⟨g, 0, none⟩) n cap) n (P ++ a :: b :: c :: d :: R) := by
 have hn := ho.1
 have hl : (P ++ a :: b :: c :: d :: R).length = n * 4 := by rw [← hn, hxs]; simp
 refine ⟨hl, ?_⟩
 rcases ho.2 with ⟨h1, _⟩ | ⟨g', cap', cur, h0, hbg, hg, h1, h2, h3, h4⟩
 · cases h1
 · injection h0 with e1 e2 e3
   injection e1 with e1
   injection e1 with e1
   subst e1 e3
   refine .inr ⟨g, cap, _, rfl, hbg, set4o_same hg _ _ _ _, h1, h2, by simpa using h3, ?_⟩
   have hcur : cur.toList = P ++ x0 :: x1 :: x2 :: x3 :: (R ++ cur.toList.drop (n * 4)) := by
    conv => lhs; rw [← List.take_append_drop (n * 4) cur.toList, h4, hxs]
    simp
   simp only [Array.toList_setIfInBounds]
   generalize cur.toList.drop (n * 4) = Q at *
   rw [hcur]
   refine (congrArg (List.take (n * 4)) (set4_list P x0 x1 x2 x3 a b c d (R ++ Q) o hP)).trans ?_
   rw [← hl]
   refine (congrArg (List.take _) (show P ++ a :: b :: c :: d :: (R ++ Q) = (P ++ a :: b :: c :: d :: R) ++ Q by simp)).trans List.take_left
theorem flatP_split (l : List Pag) (i : Nat) (hi : i < l.length) : flatP l = flatP (l.take i) ++ .int .i64 (l[i]).k :: .int .i64 (l[i]).d :: .int .i64 (l[i]).x :: .string (str (l[i]).l) :: flatP (l.drop (i + 1)) := by
 conv => lhs; rw [← List.take_append_drop i l, List.drop_eq_getElem_cons hi, flatP_append, flatP_cons]
 rfl
theorem flatP_set (l : List Pag) (i : Nat) (hi : i < l.length) (p : Pag) : flatP (l.set i p) = flatP (l.take i) ++ .int .i64 p.k :: .int .i64 p.d :: .int .i64 p.x :: .string (str p.l) :: flatP (l.drop (i + 1)) := by
 rw [List.set_eq_take_append_cons_drop, if_pos hi, flatP_append, flatP_cons]
 rfl
theorem flatP_take (l : List Pag) (i : Nat) (h : i ≤ l.length) : (flatP (l.take i)).length = i * 4 := by rw [flatP_len, List.length_take]; omega
theorem keep_set4o {S : Nat → Prop} {a b : World} (h : Keep S a b) {g o : Nat} (k : S g ∨ a.heap.size ≤ g) (x y z u : Value) : Keep S a (set4o b g o x y z u) :=
 (((h.setCell (j := o) k x).setCell (j := o + 1) k y).setCell (j := o + 2) k z).setCell (j := o + 3) k u
def Pk (gb mb cb : Nat) (w w' : World) : Prop := ∃ nv pb l c, w.heap[cb]? = some (chO gb nv (.slice (some ⟨pb, 0, none⟩) l c)) ∧ Keep (fun j => j = gb ∨ j = mb ∨ j = pb) w w'
set_option maxRecDepth 100000 in
set_option maxHeartbeats 4000000 in
theorem cput_pk (w0 w : World) (gb mb sb qb c n cb C i m : Nat) (pg : Nat → Pag) (tk : Int) (L : List (Nat × Pag)) (p q : Pag) (h : GV w0 w gb mb sb qb c n pg tk) (hc : Ch C w cb gb L) (hC : w0.heap.size ≤ C ∧ gb < C ∧ mb < C)
 (hi : L[i]? = some (m, q)) (hm : m < n) (hp : p.ok) (hL : L.length ≤ 1000) :
 Calls Tryz.prog 54 #[.pointer (some ⟨cb, 0, none⟩), .int .i64 i, p.v] w fun e w' => e = .returned (.int .i64 0) ∧
  Ch C w' cb gb (L.set i (m, p)) ∧ GV w0 w' gb mb sb qb c n (updN pg m p) tk ∧ Ck w0.heap.size gb mb C w w' ∧ Pk gb mb cb w w' := by
 obtain ⟨hil, hie⟩ := List.getElem?_eq_some_iff.1 hi
 obtain ⟨nv, pv, hch, hnr, hpr, hn1, hn2, hn3⟩ := hc.ex
 have hne := hn3 (fun e => by rw [e] at hil; simp at hil)
 have hform : ∀ (v : Value) (T : TypeId) (k : Nat) (xs : List Value), w.ownsRow C T k v L.length xs → ∃ g cp, v = .slice (some ⟨g, 0, none⟩) L.length cp := fun v T k xs hr => by
  rcases hr.2 with ⟨_, h0⟩ | ⟨g, cp, _, h0, _⟩
  · omega
  · exact ⟨g, cp, h0⟩
 obtain ⟨nb, cn, rfl⟩ := hform _ _ _ _ hnr
 obtain ⟨pb, cp, rfl⟩ := hform _ _ _ _ hpr
 clear hform
 have hnbC := own_base hnr nb rfl
 have hpbC := own_base hpr pb rfl
 have hnbl := own_lt hnr nb rfl
 have hpbl := own_lt hpr pb rfl
 have hcbC := hc.base
 have ncell := own_at hnr i (.int .i64 (m : Int)) (by rw [natV, List.getElem?_map, List.getElem?_map, hi]; rfl)
 have hil2 : i < (L.map (·.2)).length := by rw [List.length_map]; exact hil
 have pc := fun r (hr : r < 4) => own_at hpr (i * 4 + r) _ ((flatP_at hil2 r hr).trans (show _ = some ((pcells (L.map (·.2))[i]).getD r undef) from by rw [List.getD_eq_getElem?_getD, List.getElem?_eq_getElem (show r < (pcells (L.map (·.2))[i]).length from hr)]; rfl))
 have pf := own_free hpr
 have hput := fun W (hW : GV w0 W gb mb sb qb c n pg tk) => hW.putW m hm p hp
 have hset := own_set4 hpr (flatP_split (L.map (·.2)) i hil2) (flatP_take _ i (by omega)) (.int .i64 p.k) (.int .i64 p.d) (.int .i64 p.x) (.string (str p.l))
 rw [← flatP_set (L.map (·.2)) i hil2 p] at hset
 have hmap2 : (L.map (·.2)).set i p = (L.set i (m, p)).map (·.2) := by rw [List.map_set]
 have hmap1 : (L.set i (m, p)).map (·.1) = L.map (·.1) := by
  rw [List.map_set]
  refine List.ext_getElem? fun j => ?_
  by_cases hj : i = j
  · subst hj; rw [List.getElem?_set_self (by rw [List.length_map]; exact hil), List.getElem?_map, hi]; rfl
  · rw [List.getElem?_set_ne hj]
 rw [hmap2] at hset
 have hnp : nb ≠ pb := fun e => hne (by rw [e]; rfl)
 have hcp : cb ≠ pb := fun e => hn2 (by rw [e]; rfl)
 have hcn : cb ≠ nb := fun e => hn1 (by rw [e]; rfl)
 have hlen2 : (L.set i (m, p)).length = L.length := List.length_set
 have b1 := below_al (Below.refl _ w) (pagO p.k p.d p.x (str p.l))
 have bx := heap_alloc_new w (pagO p.k p.d p.x (str p.l))
 -- the world behind the store
 obtain ⟨W1, hW1⟩ : ∃ W1, W1 = set4o (w.alloc (pagO p.k p.d p.x (str p.l))).drew pb (i * 4) (.int .i64 p.k) (.int .i64 p.d) (.int .i64 p.x) (.string (str p.l)) := ⟨_, rfl⟩
 have k1 : Keep (fun j => j = pb) w W1 := hW1 ▸ keep_set4o (S := fun j => j = pb) ((Keep.refl _ w).alloc _).drew (.inl rfl) _ _ _ _
 have ch1 : W1.heap[cb]? = _ := k1.blk hch hcp
 have nr1 := k1.row hnr (fun g hg => by injection hg with hg; subst hg; exact hnp)
 have pr1 : W1.ownsRow C 113 4 (.slice (some ⟨pb, 0, none⟩) L.length cp) L.length (flatP ((L.set i (m, p)).map (·.2))) := by
  have h9 := own_set4 (hpr.alloc (pagO p.k p.d p.x (str p.l))).drew (flatP_split (L.map (·.2)) i hil2) (flatP_take _ i (by omega)) (.int .i64 p.k) (.int .i64 p.d) (.int .i64 p.x) (.string (str p.l))
  rw [← flatP_set (L.map (·.2)) i hil2 p, hmap2] at h9
  exact hW1 ▸ h9
 have g1 : GV w0 W1 gb mb sb qb c n pg tk := h.own k1 (by omega)
 have bx1 : W1.heap[w.heap.size]? = some (pagO p.k p.d p.x (str p.l)) := hW1 ▸ (set4o_other _ (show w.heap.size ≠ pb by omega) _ _ _ _).trans bx
 have nc1 : W1.cell? ⟨nb, i, none⟩ = some (.int .i64 (m : Int)) := (k1.cell hnbl hnp).trans ncell
 have K1 : Hid (Keep (fun j => j = gb ∨ j = mb ∨ j = pb) w W1) := Lib.hid (k1.mono (fun j hj => .inr (.inr hj)))
 have HCH := Lib.hid hch
 have C1 : Ck w0.heap.size gb mb C w W1 := .of_keep k1 (fun j hj => by subst hj; exact hpbC)
 have hD1 : Hid (Ch C W1 cb gb (L.set i (m, p))) := Lib.hid ⟨⟨_, _, ch1, by rw [hmap1, hlen2]; exact nr1, by rw [hlen2]; exact pr1, hn1, hn2, fun _ => hne⟩, hcbC⟩
 have G1 := Lib.hid g1
 have CK1 := Lib.hid C1
 have CH1 := Lib.hid ch1
 have BX1 := Lib.hid bx1
 have NC1 := Lib.hid nc1
 have NL1 : Hid (nb < W1.heap.size) := Lib.hid (Nat.lt_of_lt_of_le hnbl k1.size)
 -- facts ahead of the store
 have P0 := pc 0 (by omega)
 have P1 := pc 1 (by omega)
 have P2 := pc 2 (by omega)
 have P3 := pc 3 (by omega)
 rw [Nat.add_zero] at P0
 have hiI : (i : Int) < (L.length : Int) := by omega
 have hch0 := hal (o := pagO p.k p.d p.x (str p.l)) hch
 have CH0 := Lib.hid hch0
 have BX0 := Lib.hid bx
 have Hput := Lib.hid hput
 have HC := Lib.hid hC
 obtain ⟨pk, pd, px, pl⟩ := p
 simp only [Pag.v] at Hput ⊢
 obtain ⟨S, hS⟩ : ∃ S, S = str pl := ⟨_, rfl⟩
 simp only at hW1 BX1 BX0 CH0
 rw [← hS] at hW1 BX1 BX0 CH0 Hput ⊢
 have HW1 := Lib.hid hW1
 clear hset hmap1 hmap2 hlen2 b1 bx k1 ch1 nr1 pr1 g1 bx1 nc1 C1 pc hch hch0 hnr hpr hput hC hc h hn1 hn2 hn3 hne hp hi hie hW1 hS ncell
 go_enter Tryz.func54, Tryz.ntmps54
 go_wp2_with fail
 refine Ra.wp_region_A (S := (fun W => W.heap[cb]? = some (chO gb (.slice (some ⟨nb, 0, none⟩) L.length cn) (.slice (some ⟨pb, 0, none⟩) L.length cp)) ∧ W.heap[w.heap.size]? = some (pagO pk pd px S))) [3, 5, 6] (by kernel_rfl) (⟨CH0.out, BX0.out⟩) (fun hHeld => ?_)
 refine Ra.WT 0 ?_ ?_ ?_
 rotate_left
 · intro wq hSw
   go_simp
   try with_reducible rfl
 try simp only [Act.put, List.getElem_toArray, List.getElem_cons_succ, List.getElem_cons_zero, List.setIfInBounds_toArray, List.set_cons_zero, List.set_cons_succ]
 refine Ra.WT 1 ?_ ?_ ?_
 rotate_left
 · intro wq hSw
   go_simp
   try with_reducible rfl
 try simp only [Act.put, List.getElem_toArray, List.getElem_cons_succ, List.getElem_cons_zero, List.setIfInBounds_toArray, List.set_cons_zero, List.set_cons_succ]
 refine Ra.WT 2 ?_ ?_ ?_
 rotate_left
 · intro wq hSw
   go_simp
   try with_reducible rfl
 try simp only [Act.put, List.getElem_toArray, List.getElem_cons_succ, List.getElem_cons_zero, List.setIfInBounds_toArray, List.set_cons_zero, List.set_cons_succ]
 refine Ra.WT 4 ?_ ?_ ?_
 rotate_left
 · intro wq hSw
   go_simp
   try with_reducible rfl
 try simp only [Act.put, List.getElem_toArray, List.getElem_cons_succ, List.getElem_cons_zero, List.setIfInBounds_toArray, List.set_cons_zero, List.set_cons_succ]
 refine Ra.WA 3 ?_ ?_ hHeld ?_
 rotate_left
 · intro wq hSw
   have hSc := blk_cell hSw.1; have hSl := lt_of_block hSw.1; have hSp := blk_cell hSw.2; have hSq := lt_of_block hSw.2
   go_simp
   try with_reducible rfl
 try simp only [Act.put, List.getElem_toArray, List.getElem_cons_succ, List.getElem_cons_zero, List.setIfInBounds_toArray, List.set_cons_zero, List.set_cons_succ]
 refine Ra.WA 5 ?_ ?_ hHeld ?_
 rotate_left
 · intro wq hSw
   have hSc := blk_cell hSw.1; have hSl := lt_of_block hSw.1; have hSp := blk_cell hSw.2; have hSq := lt_of_block hSw.2
   go_simp
   try with_reducible rfl
 try simp only [Act.put, List.getElem_toArray, List.getElem_cons_succ, List.getElem_cons_zero, List.setIfInBounds_toArray, List.set_cons_zero, List.set_cons_succ]
 refine Ra.WA 6 ?_ ?_ hHeld ?_
 rotate_left
 · intro wq hSw
   have hSc := blk_cell hSw.1; have hSl := lt_of_block hSw.1; have hSp := blk_cell hSw.2; have hSq := lt_of_block hSw.2
   go_simp
   try rw [if_neg (by omega)]
   try rw [if_pos (by omega)]
   try with_reducible rfl
 try simp only [Act.put, List.getElem_toArray, List.getElem_cons_succ, List.getElem_cons_zero, List.setIfInBounds_toArray, List.set_cons_zero, List.set_cons_succ]
 refine Ra.wpA_ready (rs := [7]) (by kernel_rfl) (by simp) ?_
 refine Ra.AllReadyA.late rfl rfl (fun K hK => ?_) Ra.AllReadyA.nil
 rw [if_pos (by kernel_rfl)]
 go_simp
 skip
 refine hK.out _ _ (trivial) (fun hHeld2 => ?_)
 clear hK K
 try clear hHeld
 have hHeld := hHeld2
 try clear hHeld2
 refine Ra.wpA_done (by kernel_rfl) ?_ _
 have e1 : W1 = ((((((w.setCell ⟨pb, i * 4, none⟩ (.int .i64 pk)).setCell ⟨pb, i * 4 + 1, none⟩ (.int .i64 pd)).setCell ⟨pb, i * 4 + 2, none⟩ (.int .i64 px)).setCell ⟨pb, i * 4 + 3, none⟩ (.string S)).alloc (.cells #[.int .i64 pk, .int .i64 pd, .int .i64 px, .string S] 113)).drew) := (by rw [HW1.out]; simp [set4o, go_sem, hpbl])
 rw [← e1]
 clear e1 HW1 CH0 BX0 P0 P1 P2 P3 pf hHeld
 go_wp2_with fail
 refine Ra.wp_region_A (S := (fun W => W.heap[cb]? = some (chO gb (.slice (some ⟨nb, 0, none⟩) L.length cn) (.slice (some ⟨pb, 0, none⟩) L.length cp)) ∧ W.heap[w.heap.size]? = some (pagO pk pd px S) ∧ W.cell? ⟨nb, i, none⟩ = some (.int .i64 (m : Int)) ∧ nb < W.heap.size)) [3, 7, 9, 10, 11] (by kernel_rfl) (⟨CH1.out, BX1.out, NC1.out, NL1.out⟩) (fun hHeld => ?_)
 refine Ra.WT 0 ?_ ?_ ?_
 rotate_left
 · intro wq hSw
   go_simp
   try with_reducible rfl
 try simp only [Act.put, List.getElem_toArray, List.getElem_cons_succ, List.getElem_cons_zero, List.setIfInBounds_toArray, List.set_cons_zero, List.set_cons_succ]
 refine Ra.WT 1 ?_ ?_ ?_
 rotate_left
 · intro wq hSw
   go_simp
   try with_reducible rfl
 try simp only [Act.put, List.getElem_toArray, List.getElem_cons_succ, List.getElem_cons_zero, List.setIfInBounds_toArray, List.set_cons_zero, List.set_cons_succ]
 refine Ra.WT 2 ?_ ?_ ?_
 rotate_left
 · intro wq hSw
   go_simp
   try with_reducible rfl
 try simp only [Act.put, List.getElem_toArray, List.getElem_cons_succ, List.getElem_cons_zero, List.setIfInBounds_toArray, List.set_cons_zero, List.set_cons_succ]
 refine Ra.WT 4 ?_ ?_ ?_
 rotate_left
 · intro wq hSw
   go_simp
   try with_reducible rfl
 try simp only [Act.put, List.getElem_toArray, List.getElem_cons_succ, List.getElem_cons_zero, List.setIfInBounds_toArray, List.set_cons_zero, List.set_cons_succ]
 refine Ra.WT 5 ?_ ?_ ?_
 rotate_left
 · intro wq hSw
   go_simp
   try with_reducible rfl
 try simp only [Act.put, List.getElem_toArray, List.getElem_cons_succ, List.getElem_cons_zero, List.setIfInBounds_toArray, List.set_cons_zero, List.set_cons_succ]
 refine Ra.WT 6 ?_ ?_ ?_
 rotate_left
 · intro wq hSw
   go_simp
   try with_reducible rfl
 try simp only [Act.put, List.getElem_toArray, List.getElem_cons_succ, List.getElem_cons_zero, List.setIfInBounds_toArray, List.set_cons_zero, List.set_cons_succ]
 refine Ra.WT 8 ?_ ?_ ?_
 rotate_left
 · intro wq hSw
   go_simp
   try with_reducible rfl
 try simp only [Act.put, List.getElem_toArray, List.getElem_cons_succ, List.getElem_cons_zero, List.setIfInBounds_toArray, List.set_cons_zero, List.set_cons_succ]
 refine Ra.WA 3 ?_ ?_ hHeld ?_
 rotate_left
 · intro wq hSw
   have hSc := blk_cell hSw.1; have hSl := lt_of_block hSw.1; have hSp := blk_cell hSw.2.1; have hSq := lt_of_block hSw.2.1; have hSn := hSw.2.2.1; have hSm := hSw.2.2.2
   go_simp
   try with_reducible rfl
 try simp only [Act.put, List.getElem_toArray, List.getElem_cons_succ, List.getElem_cons_zero, List.setIfInBounds_toArray, List.set_cons_zero, List.set_cons_succ]
 refine Ra.WA 7 ?_ ?_ hHeld ?_
 rotate_left
 · intro wq hSw
   have hSc := blk_cell hSw.1; have hSl := lt_of_block hSw.1; have hSp := blk_cell hSw.2.1; have hSq := lt_of_block hSw.2.1; have hSn := hSw.2.2.1; have hSm := hSw.2.2.2
   go_simp
   try with_reducible rfl
 try simp only [Act.put, List.getElem_toArray, List.getElem_cons_succ, List.getElem_cons_zero, List.setIfInBounds_toArray, List.set_cons_zero, List.set_cons_succ]
 refine Ra.WA 9 ?_ ?_ hHeld ?_
 rotate_left
 · intro wq hSw
   have hSc := blk_cell hSw.1; have hSl := lt_of_block hSw.1; have hSp := blk_cell hSw.2.1; have hSq := lt_of_block hSw.2.1; have hSn := hSw.2.2.1; have hSm := hSw.2.2.2
   go_simp
   try rw [if_neg (by omega)]
   try rw [if_pos (by omega)]
   try with_reducible rfl
 try simp only [Act.put, List.getElem_toArray, List.getElem_cons_succ, List.getElem_cons_zero, List.setIfInBounds_toArray, List.set_cons_zero, List.set_cons_succ]
 refine Ra.WA 10 ?_ ?_ hHeld ?_
 rotate_left
 · intro wq hSw
   have hSc := blk_cell hSw.1; have hSl := lt_of_block hSw.1; have hSp := blk_cell hSw.2.1; have hSq := lt_of_block hSw.2.1; have hSn := hSw.2.2.1; have hSm := hSw.2.2.2
   go_simp
   try with_reducible rfl
 try simp only [Act.put, List.getElem_toArray, List.getElem_cons_succ, List.getElem_cons_zero, List.setIfInBounds_toArray, List.set_cons_zero, List.set_cons_succ]
 refine Ra.WA 11 ?_ ?_ hHeld ?_
 rotate_left
 · intro wq hSw
   have hSc := blk_cell hSw.1; have hSl := lt_of_block hSw.1; have hSp := blk_cell hSw.2.1; have hSq := lt_of_block hSw.2.1; have hSn := hSw.2.2.1; have hSm := hSw.2.2.2
   go_simp
   try with_reducible rfl
 try simp only [Act.put, List.getElem_toArray, List.getElem_cons_succ, List.getElem_cons_zero, List.setIfInBounds_toArray, List.set_cons_zero, List.set_cons_succ]
 refine Ra.wpA_ready (rs := [12]) (by kernel_rfl) (by simp) ?_
 refine Ra.AllReadyA.late rfl rfl (fun K hK => ?_) Ra.AllReadyA.nil
 rw [if_pos (by kernel_rfl)]
 go_simp
 (with_reducible refine (Hput.out _ (G1.out.rk (below_dr (Below.refl _ _)))).mono ?_)
 rintro e w2 ⟨rfl, g2, k2⟩
 go_simp
 refine hK.out _ _ (trivial) (fun hHeld2 => ?_)
 clear hK K
 try clear hHeld
 have hHeld := hHeld2
 try clear hHeld2
 refine Ra.WT 13 ?_ ?_ ?_
 rotate_left
 · intro wq hSw
   go_simp
   try with_reducible rfl
 try simp only [Act.put, List.getElem_toArray, List.getElem_cons_succ, List.getElem_cons_zero, List.setIfInBounds_toArray, List.set_cons_zero, List.set_cons_succ]
 refine Ra.wpA_done (by kernel_rfl) ?_ _
 go_wp2_with fail
 go_ret
 exact ⟨rfl, (hD1.out.below (below_dr (Below.refl _ _))).wk k2 HC.out.1 HC.out.2.1 HC.out.2.2, g2, CK1.out.trans (.of_wk ((Wk.of_below (below_dr (Below.refl _ _))).trans k2)), ⟨_, pb, _, _, HCH.out, K1.out.trans (((Wk.of_below (B := w0.heap.size) (gb := gb) (mb := mb) (below_dr (Below.refl _ _))).trans k2).keep.mono (fun j hj => by rcases hj with h | h; exact .inl h; exact .inr (.inl h)))⟩⟩
theorem cput_ok (w0 w : World) (gb mb sb qb c n cb C i m : Nat) (pg : Nat → Pag) (tk : Int) (L : List (Nat × Pag)) (p q : Pag) (h : GV w0 w gb mb sb qb c n pg tk) (hc : Ch C w cb gb L) (hC : w0.heap.size ≤ C ∧ gb < C ∧ mb < C)
 (hi : L[i]? = some (m, q)) (hm : m < n) (hp : p.ok) (hL : L.length ≤ 1000) :
 Calls Tryz.prog 54 #[.pointer (some ⟨cb, 0, none⟩), .int .i64 i, p.v] w fun e w' => e = .returned (.int .i64 0) ∧
  Ch C w' cb gb (L.set i (m, p)) ∧ GV w0 w' gb mb sb qb c n (updN pg m p) tk ∧ Ck w0.heap.size gb mb C w w' :=
 (cput_pk w0 w gb mb sb qb c n cb C i m pg tk L p q h hc hC hi hm hp hL).mono fun _ _ ⟨h1, h2, h3, h4, _⟩ => ⟨h1, h2, h3, h4⟩
end Go.Proofs.YtijhamllnnilbaaGreatDoor.Ha
