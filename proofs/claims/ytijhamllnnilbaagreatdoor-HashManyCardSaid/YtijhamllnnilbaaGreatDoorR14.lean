/- Lemmas of the claim, in their order:
- The contracts of package bucket's Set, Cut, Room.
- The contracts of package bucket's Cut, Room.
-/
import Derived.Test.YtijhamllnnilbaaGreatDoorR13
set_option linter.unusedVariables false
set_option linter.unusedSimpArgs false
namespace Go.Proofs.YtijhamllnnilbaaGreatDoor.Ha
open Go.RowKit Go.Proofs.YtijhamllnnilbaaGreatDoor.Mem Go.Proofs.YtijhamllnnilbaaGreatDoor.Pg Go.Proofs.YtijhamllnnilbaaGreatDoor.Kp Go.Proofs.YtijhamllnnilbaaGreatDoor.Sp Go.Proofs.YtijhamllnnilbaaGreatDoor.Gr
set_option linter.unusedSimpArgs false
set_option linter.unusedVariables false
abbrev set4o (w : World) (g o : Nat) (a b c d : Value) : World := (((w.setCell ⟨g, o, none⟩ a).setCell ⟨g, o + 1, none⟩ b).setCell ⟨g, o + 2, none⟩ c).setCell ⟨g, o + 3, none⟩ d
theorem set4o_same {w : World} {g o : Nat} {cs : Array Value} {t : TypeId} (h : w.heap[g]? = some (.cells cs t (0, 0))) (a b c d : Value) :
 (set4o w g o a b c d).heap[g]? = some (.cells ((((cs.setIfInBounds o a).setIfInBounds (o + 1) b).setIfInBounds (o + 2) c).setIfInBounds (o + 3) d) t (0, 0)) :=
 heap_setCell_same _ g _ _ t d (heap_setCell_same _ g _ _ t c (heap_setCell_same _ g _ _ t b (heap_setCell_same w g _ _ t a h)))
theorem set4o_other (w : World) {g o k : Nat} (h : k ≠ g) (a b c d : Value) : (set4o w g o a b c d).heap[k]? = w.heap[k]? := by
 rw [heap_setCell_other _ _ _ _ h, heap_setCell_other _ _ _ _ h, heap_setCell_other _ _ _ _ h, heap_setCell_other _ _ _ _ h]
theorem below_set4o {B g o : Nat} {x y : World} (h : Below B x y) (hg : B ≤ g) (a b c d : Value) : Below B x (set4o y g o a b c d) :=
 below_set (below_set (below_set (below_set h hg) hg) hg) hg
theorem set4_list (P : List Value) (x0 x1 x2 x3 a b c d : Value) (R : List Value) (o : Nat) (ho : P.length = o) :
 ((((P ++ x0 :: x1 :: x2 :: x3 :: R).set o a).set (o + 1) b).set (o + 2) c).set (o + 3) d = P ++ a :: b :: c :: d :: R := by
 subst ho
 simp [List.set_append_right]
theorem own_set {w : World} {base g n cap i : Nat} {l : List Cel} (ho : w.ownsRow base 33 4 (.slice (some ⟨g, 0, none⟩) n cap) n (flatC l)) (hi : i < l.length) (c : Cel) :
 (set4o w g (i * 4) (.string (str c.key)) (.string (str c.val)) (.int .i64 c.blob) (.int .i64 c.size)).ownsRow base 33 4 (.slice (some ⟨g, 0, none⟩) n cap) n (flatC (l.set i c)) := by
 have hn := ho.1
 rw [flatC_len] at hn
 refine ⟨by rw [flatC_len, List.length_set]; omega, ?_⟩
 rcases ho.2 with ⟨h1, _⟩ | ⟨g', cap', cur, h0, hbg, hg, h1, h2, h3, h4⟩
 · cases h1
 · injection h0 with e1 e2 e3
   injection e1 with e1
   injection e1 with e1
   subst e1 e3
   refine .inr ⟨g, cap, _, rfl, hbg, set4o_same hg _ _ _ _, h1, h2, by simpa using h3, ?_⟩
   have hcur : cur.toList = flatC (l.take i) ++ ((l[i]).cells ++ (flatC (l.drop (i + 1)) ++ cur.toList.drop (n * 4))) := by
    have hd : flatC (l.drop i) = (l[i]).cells ++ flatC (l.drop (i + 1)) := by rw [List.drop_eq_getElem_cons hi, flatC_cons]
    rw [← List.append_assoc (l[i]).cells, ← hd, ← List.append_assoc, ← flatC_append, List.take_append_drop, ← h4, List.take_append_drop]
   have hP := flatC_take l i (by omega)
   simp only [Array.toList_setIfInBounds]
   generalize cur.toList.drop (n * 4) = R at *
   rw [hcur]
   have := set4_list (flatC (l.take i)) (.string (str (l[i]).key)) (.string (str (l[i]).val)) (.int .i64 (l[i]).blob) (.int .i64 (l[i]).size) (.string (str c.key)) (.string (str c.val)) (.int .i64 c.blob) (.int .i64 c.size) (flatC (l.drop (i + 1)) ++ R) (i * 4) hP
   refine (congrArg (List.take (n * 4)) this).trans ?_
   have hfl : flatC (l.set i c) = flatC (l.take i) ++ (c.cells ++ flatC (l.drop (i + 1))) := by
    rw [List.set_eq_take_append_cons_drop, if_pos hi, flatC_append, flatC_cons]
   have hlen : (flatC (l.take i) ++ (c.cells ++ flatC (l.drop (i + 1)))).length = n * 4 := by
    rw [← hfl, flatC_len, List.length_set]; omega
   rw [hfl, ← hlen]
   refine (congrArg (List.take _) (show flatC (l.take i) ++ (c.cells ++ (flatC (l.drop (i + 1)) ++ R)) = (flatC (l.take i) ++ (c.cells ++ flatC (l.drop (i + 1)))) ++ R by simp)).trans List.take_left
theorem ins_len (c : Cel) (l : List Cel) : (ins c l).length ≤ l.length + 1 := by
 induction l with
 | nil => simp [ins]
 | cons a l ih =>
  unfold ins
  by_cases h1 : a.key < c.key
  · rw [if_pos h1]; simp; omega
  · rw [if_neg h1]
    by_cases h2 : a.key = c.key
    · rw [if_pos h2]; simp
    · rw [if_neg h2]; simp
theorem withRes_form (p : Pag) (l : List Cel) : ∃ k d x T e, withRes p l = .returned (.tuple #[.agg #[.int .i64 k, .int .i64 d, .int .i64 x, .string T], .int .i64 e]) := by
 unfold withRes
 by_cases h : szs l ≤ 239
 · rw [if_pos h]; exact ⟨_, _, _, _, _, rfl⟩
 · rw [if_neg h]; exact ⟨_, _, _, _, _, rfl⟩
set_option maxRecDepth 100000 in
set_option maxHeartbeats 4000000 in
theorem bset_any (p : Pag) (l : List Cel) (c : Cel) (hp : Bkt p l) (hc : c.ok) (w : World) :
 Calls Tryz.prog 53 #[p.v, c.v] w fun e w' => e = withRes p (ins c l) ∧ Below w.heap.size w w' := by
 have hs := hp.fits.sorted
 have hlen := hp.fits.len
 have hget := bcells_ok p l hp
 have hrt := fun W => right_any c W
 rw [decide_eq_true hc] at hrt
 have hat := fun A cap W (hA : Cels W A l) => at_any A l.length cap l c.key W rfl hA hs (by omega)
 have hins := ins_len c l
 have hwith := fun A n cap W (hn : n = (ins c l).length) (hA : Cels W A (ins c l)) => with_any p A n cap (ins c l) W hn (by omega) hA (fun x hx => by
  rcases (mem_ins hs).1 hx with rfl | ⟨h1, _⟩
  · exact hc
  · exact hp.fits.ok x h1) hs.ins
 by_cases hhas : has c.key l
 · rw [decide_eq_true hhas] at hat
   have hieq := ins_has hs hhas
   obtain ⟨hpl, -⟩ := celAt_get hs hhas
   obtain ⟨q, d, x, body⟩ := p
   obtain ⟨ck, cv, cb, cz⟩ := c
   simp only [Pag.v, Cel.v] at hget hrt hwith ⊢
   obtain ⟨S, hS⟩ : ∃ S, S = str body := ⟨_, rfl⟩
   rw [← hS] at hget hwith ⊢
   have cp := blk_cell (hal (o := zpO) (blk_a1 w #[.int .i64 q, .int .i64 d, .int .i64 x, .string S] 113 (celO (str ck) (str cv) cb cz)))
   have B := Lib.hid (below_al (below_al (below_al (Below.refl _ w) (pagO q d x S)) (celO (str ck) (str cv) cb cz)) zpO)
   have Q := Lib.hid (hal (o := zpO) (blk_a1 w #[.int .i64 q, .int .i64 d, .int .i64 x, .string S] 113 (celO (str ck) (str cv) cb cz)))
   have C := Lib.hid (hal (o := zpO) (blk_a2 w (pagO q d x S) #[.string (str ck), .string (str cv), .int .i64 (cb : Int), .int .i64 (cz : Int)] 33))
   have Z := Lib.hid (blk_a3 w (pagO q d x S) (celO (str ck) (str cv) cb cz) #[.int .i64 0, .int .i64 0, .int .i64 0, .string ⟨#[]⟩] 113)
   have Hat := Lib.hid hat
   have Hwith := Lib.hid hwith
   have Hieq := Lib.hid hieq
   have Hpl := Lib.hid hpl
   clear hS hp hs hat hwith hieq hpl hhas hins
   go_enter Tryz.func53, Tryz.ntmps53
   go_wp2_with fail
   with_reducible refine (hget _).mono ?_
   rintro e w1 ⟨A, cap, rfl, ho, hb1⟩
   have O1 := Lib.hid ho
   have B1 := Lib.hid (below_tr B.out hb1)
   have Z1 := Lib.hid (blk_keep Z.out hb1)
   have Q1 := Lib.hid (blk_keep Q.out hb1)
   have c1 := blk_keep C.out hb1
   have C1 := Lib.hid c1
   have cc := blk_cell c1
   have lc := lt_of_block c1
   clear ho hb1 cp hget Z B C Q c1
   go_wp2_with fail
   with_reducible refine (hrt _).mono ?_
   rintro e w2 ⟨rfl, hb2⟩
   have o2 := own_below O1.out hb2
   have O2 := Lib.hid o2
   have B2 := Lib.hid (below_tr B1.out hb2)
   have Z2 := Lib.hid (blk_keep Z1.out hb2)
   have Q2 := Lib.hid (blk_keep Q1.out hb2)
   have c2 := blk_keep C1.out hb2
   have C2 := Lib.hid c2
   have hat2 := Hat.out A cap w2 (Cels.of_own o2)
   clear cc lc
   have cc := blk_cell c2
   have lc := lt_of_block c2
   clear O1 B1 Z1 Q1 C1 c2 hb2 o2 Hat
   go_wp2_with fail
   with_reducible refine hat2.mono ?_
   rintro e w3 ⟨rfl, hb3⟩
   have o3 := own_below O2.out hb3
   obtain ⟨g, rfl⟩ : ∃ g, A = some ⟨g, 0, none⟩ := by
    rcases o3.2 with ⟨h1, h2⟩ | ⟨g, _, _, h1, _⟩
    · have := Hpl.out; omega
    · injection h1 with h1 _ _; exact ⟨g, h1⟩
   have hgb := own_base O2.out g rfl
   simp only [World.size_alloc] at hgb
   have hgl := own_lt o3 g rfl
   obtain ⟨P, hP⟩ : ∃ P, P = pos ck l := ⟨_, rfl⟩
   have hPl : P < l.length := by rw [hP]; exact Hpl.out
   have hfr := fun j => own_free o3 j
   have e0 := own_at o3 (P * 4 + 0) _ (by rw [flatC_at hPl 0 (by omega)]; rfl)
   have e1 := own_at o3 (P * 4 + 1) _ (by rw [flatC_at hPl 1 (by omega)]; rfl)
   have e2 := own_at o3 (P * 4 + 2) _ (by rw [flatC_at hPl 2 (by omega)]; rfl)
   have e3 := own_at o3 (P * 4 + 3) _ (by rw [flatC_at hPl 3 (by omega)]; rfl)
   rw [Nat.add_zero] at e0
   have o4 := own_set o3 hPl ⟨ck, cv, cb, cz⟩
   rw [show l.set P ⟨ck, cv, cb, cz⟩ = ins ⟨ck, cv, cb, cz⟩ l from by rw [hP]; exact Hieq.out.symm] at o4
   have q3 := blk_keep Q2.out hb3
   have c3 := blk_keep C2.out hb3
   have z3 := blk_keep Z2.out hb3
   have q4 := (set4o_other w3 (o := P * 4) (show w.heap.size ≠ g by omega) (.string (str ck)) (.string (str cv)) (.int .i64 cb) (.int .i64 cz)).trans q3
   have z4 := (set4o_other w3 (o := P * 4) (show w.heap.size + 2 ≠ g by omega) (.string (str ck)) (.string (str cv)) (.int .i64 cb) (.int .i64 cz)).trans z3
   have B4 := Lib.hid (below_set4o (o := P * 4) (below_tr B2.out hb3) (show w.heap.size ≤ g by omega) (.string (str ck)) (.string (str cv)) (.int .i64 cb) (.int .i64 cz))
   have hlw : l.length = (ins ⟨ck, cv, cb, cz⟩ l).length := by rw [Hieq.out, List.length_set]
   have hw4 := Hwith.out (some ⟨g, 0, none⟩) l.length cap _ hlw (Cels.of_own o4)
   have Z4 := Lib.hid z4
   have HP := Lib.hid hP
   clear cc lc
   have cc := blk_cell c3
   have lc := lt_of_block c3
   have cq := blk_cell q4
   have lq := lt_of_block q3
   have hPi : (P : Int) < (l.length : Int) := by omega
   rw [← hP]
   clear O2 B2 Z2 Q2 C2 hb3 hat2 o3 o4 q3 c3 z3 q4 z4 Hwith Hieq Hpl hP hlw
   obtain ⟨k5, d5, x5, T5, e5, hr⟩ := withRes_form ⟨q, d, x, body⟩ (ins ⟨ck, cv, cb, cz⟩ l)
   rw [hr] at hw4
   have HR := Lib.hid hr
   clear hr
   go_wp2_with fail
   with_reducible refine hw4.mono ?_
   rintro e w5 ⟨rfl, hb5⟩
   have z5 := blk_keep Z4.out hb5
   have B5 := Lib.hid (below_tr B4.out hb5)
   clear cc lc cq lq
   have cz5 := blk_cell z5
   have fz5 := blk_free z5
   have lz5 := lt_of_block z5
   have zf := blk_cell (set4_same z5 (.int .i64 k5) (.int .i64 d5) (.int .i64 x5) (.string T5))
   have BF := Lib.hid (below_set4 B5.out (show w.heap.size ≤ w.heap.size + 2 by omega) (.int .i64 k5) (.int .i64 d5) (.int .i64 x5) (.string T5))
   clear z5 hb5 hw4 Z4
   go_wp2_with fail
   refine bodyPost_ret (v := .tuple #[.agg #[.int .i64 k5, .int .i64 d5, .int .i64 x5, .string T5], .int .i64 e5]) (by simp [results, Tryz.results53, go_sem, zf]) rfl ⟨HR.out.symm, BF.out⟩
 · rw [decide_eq_false hhas] at hat
   have hieq := ins_new hs hhas
   have hpl := pos_le c.key l
   obtain ⟨q, d, x, body⟩ := p
   obtain ⟨ck, cv, cb, cz⟩ := c
   simp only [Pag.v, Cel.v] at hget hrt hwith ⊢
   obtain ⟨S, hS⟩ : ∃ S, S = str body := ⟨_, rfl⟩
   rw [← hS] at hget hwith ⊢
   have cp := blk_cell (hal (o := zpO) (blk_a1 w #[.int .i64 q, .int .i64 d, .int .i64 x, .string S] 113 (celO (str ck) (str cv) cb cz)))
   have B := Lib.hid (below_al (below_al (below_al (Below.refl _ w) (pagO q d x S)) (celO (str ck) (str cv) cb cz)) zpO)
   have Q := Lib.hid (hal (o := zpO) (blk_a1 w #[.int .i64 q, .int .i64 d, .int .i64 x, .string S] 113 (celO (str ck) (str cv) cb cz)))
   have C := Lib.hid (hal (o := zpO) (blk_a2 w (pagO q d x S) #[.string (str ck), .string (str cv), .int .i64 (cb : Int), .int .i64 (cz : Int)] 33))
   have Z := Lib.hid (blk_a3 w (pagO q d x S) (celO (str ck) (str cv) cb cz) #[.int .i64 0, .int .i64 0, .int .i64 0, .string ⟨#[]⟩] 113)
   have Hat := Lib.hid hat
   have Hwith := Lib.hid hwith
   have Hieq := Lib.hid hieq
   have Hpl := Lib.hid hpl
   clear hS hp hs hat hwith hieq hpl hhas hins
   go_enter Tryz.func53, Tryz.ntmps53
   go_wp2_with fail
   with_reducible refine (hget _).mono ?_
   rintro e w1 ⟨A, cap, rfl, ho, hb1⟩
   have O1 := Lib.hid ho
   have B1 := Lib.hid (below_tr B.out hb1)
   have Z1 := Lib.hid (blk_keep Z.out hb1)
   have Q1 := Lib.hid (blk_keep Q.out hb1)
   have c1 := blk_keep C.out hb1
   have C1 := Lib.hid c1
   have cc := blk_cell c1
   have lc := lt_of_block c1
   clear ho hb1 cp hget Z B C Q c1
   go_wp2_with fail
   with_reducible refine (hrt _).mono ?_
   rintro e w2 ⟨rfl, hb2⟩
   have o2 := own_below O1.out hb2
   have O2 := Lib.hid o2
   have B2 := Lib.hid (below_tr B1.out hb2)
   have Z2 := Lib.hid (blk_keep Z1.out hb2)
   have Q2 := Lib.hid (blk_keep Q1.out hb2)
   have c2 := blk_keep C1.out hb2
   have C2 := Lib.hid c2
   have hat2 := Hat.out A cap w2 (Cels.of_own o2)
   clear cc lc
   have cc := blk_cell c2
   have lc := lt_of_block c2
   clear O1 B1 Z1 Q1 C1 c2 hb2 o2 Hat
   go_wp2_with fail
   with_reducible refine hat2.mono ?_
   rintro e w3 ⟨rfl, hb3⟩
   have o3 := own_below O2.out hb3
   have hgb := own_base O2.out
   simp only [World.size_alloc] at hgb
   obtain ⟨P, hP⟩ : ∃ P, P = pos ck l := ⟨_, rfl⟩
   have hPl : P ≤ l.length := by rw [hP]; exact Hpl.out
   have o3' := o3.alloc (celO (str ck) (str cv) cb cz)
   have hins4 := insert_own (w3.alloc (celO (str ck) (str cv) cb cz)) _ A cap l.length P l ⟨ck, cv, cb, cz⟩ w3.heap.size rfl o3' (by omega) (by have := hb3.size; have := B2.out.size; have := O2.out; simp only [World.size_alloc]; omega) hPl (heap_alloc_new w3 _) (fun a ha => by
    have := own_lt o3 a.block (by rw [ha]; rfl)
    omega)
   rw [show l.take P ++ ⟨ck, cv, cb, cz⟩ :: l.drop P = ins ⟨ck, cv, cb, cz⟩ l from by rw [hP]; exact Hieq.out.symm] at hins4
   have hlw : l.length + 1 = (ins ⟨ck, cv, cb, cz⟩ l).length := by rw [Hieq.out, List.length_append, List.length_cons, List.length_take, List.length_drop]; omega
   have q3 := hal (o := celO (str ck) (str cv) cb cz) (blk_keep Q2.out hb3)
   have lc3 := lt_of_block (blk_keep Z2.out hb3)
   have c3 := blk_keep C2.out hb3
   have z3 := hal (o := celO (str ck) (str cv) cb cz) (blk_keep Z2.out hb3)
   have B3 := Lib.hid (below_al (below_tr B2.out hb3) (celO (str ck) (str cv) cb cz))
   have Q3 := Lib.hid q3
   have Z3 := Lib.hid z3
   have HP := Lib.hid hP
   have Hlw := Lib.hid hlw
   have Hins4 := Lib.hid hins4
   clear cc lc
   have cc := blk_cell c3
   have lc := lt_of_block c3
   rw [← hP]
   clear O2 B2 Z2 Q2 C2 hb3 hat2 o3 o3' q3 c3 z3 Hieq Hpl hP hlw hgb hins4
   go_wp2_with fail
   with_reducible refine Hins4.out.mono ?_
   rintro e w4 ⟨A', cap', rfl, ho4, hb4⟩
   have hbs : (((w.alloc (pagO q d x S)).alloc (celO (str ck) (str cv) cb cz)).alloc zpO).heap.size = w.heap.size + 3 := by simp
   rw [hbs] at hb4 ho4
   have hs3 : w.heap.size + 3 ≤ w3.heap.size := lc3
   have b4 : Below w.heap.size w w4 := B3.out.trans (hb4.mono (by omega))
   have q4 := (hb4.block w.heap.size (by omega)).trans Q3.out
   have z4 := (hb4.block (w.heap.size + 2) (by omega)).trans Z3.out
   have hw4 := Hwith.out A' (l.length + 1) cap' w4 Hlw.out (Cels.of_own ho4)
   have Z4 := Lib.hid z4
   have B4 := Lib.hid b4
   have cq := blk_cell q4
   have lq := lt_of_block q4
   clear cc lc ho4 hb4 b4 q4 z4 B3 Q3 Z3 Hins4 Hwith hbs hs3
   obtain ⟨k5, d5, x5, T5, e5, hr⟩ := withRes_form ⟨q, d, x, body⟩ (ins ⟨ck, cv, cb, cz⟩ l)
   rw [hr] at hw4
   have HR := Lib.hid hr
   clear hr
   go_wp2_with fail
   with_reducible refine hw4.mono ?_
   rintro e w5 ⟨rfl, hb5⟩
   have z5 := blk_keep Z4.out hb5
   have B5 := Lib.hid (below_tr B4.out hb5)
   clear cq lq
   have cz5 := blk_cell z5
   have fz5 := blk_free z5
   have lz5 := lt_of_block z5
   have zf := blk_cell (set4_same z5 (.int .i64 k5) (.int .i64 d5) (.int .i64 x5) (.string T5))
   have BF := Lib.hid (below_set4 B5.out (show w.heap.size ≤ w.heap.size + 2 by omega) (.int .i64 k5) (.int .i64 d5) (.int .i64 x5) (.string T5))
   clear z5 hb5 hw4 Z4
   go_wp2_with fail
   refine bodyPost_ret (v := .tuple #[.agg #[.int .i64 k5, .int .i64 d5, .int .i64 x5, .string T5], .int .i64 e5]) (by simp [results, Tryz.results53, go_sem, zf]) rfl ⟨HR.out.symm, BF.out⟩
end Go.Proofs.YtijhamllnnilbaaGreatDoor.Ha
namespace Go.Proofs.YtijhamllnnilbaaGreatDoor.Ha
open Go.RowKit Go.Proofs.YtijhamllnnilbaaGreatDoor.Mem Go.Proofs.YtijhamllnnilbaaGreatDoor.Pg Go.Proofs.YtijhamllnnilbaaGreatDoor.Kp Go.Proofs.YtijhamllnnilbaaGreatDoor.Sp Go.Proofs.YtijhamllnnilbaaGreatDoor.Gr
set_option linter.unusedSimpArgs false
set_option linter.unusedVariables false
theorem cutK_len (k : List UInt8) (l : List Cel) : (cutK k l).length ≤ l.length := List.length_filter_le ..
set_option maxRecDepth 100000 in
set_option maxHeartbeats 4000000 in
theorem bcut_any (p : Pag) (l : List Cel) (k : List UInt8) (hp : Bkt p l) (hhas : has k l) (w : World) :
 Calls Tryz.prog 141 #[p.v, .string (str k)] w fun e w' => e = .returned (.tuple #[(⟨p.k, p.d, p.x, bodyF (cutK k l)⟩ : Pag).v, .int .i64 0]) ∧ Below w.heap.size w w' := by
 have hs := hp.fits.sorted
 have hlen := hp.fits.len
 have hget := bcells_ok p l hp
 have hat := fun A cap W (hA : Cels W A l) => at_any A l.length cap l k W rfl hA hs (by omega)
 rw [decide_eq_true hhas] at hat
 have hcl := cutK_len k l
 have hf := hp.fits.cut k
 have hwith := fun A n cap W (hn : n = (cutK k l).length) (hA : Cels W A (cutK k l)) => with_any p A n cap (cutK k l) W hn (by omega) hA hf.ok hf.sorted
 unfold withRes at hwith
 rw [if_pos hf.room] at hwith
 have hieq := cut_has hs hhas
 obtain ⟨hpl, -⟩ := celAt_get hs hhas
 obtain ⟨q, d, x, body⟩ := p
 simp only [Pag.v] at hget hwith ⊢
 obtain ⟨S, hS⟩ : ∃ S, S = str body := ⟨_, rfl⟩
 rw [← hS] at hget hwith ⊢
 obtain ⟨T, hT⟩ : ∃ T, T = str (bodyF (cutK k l)) := ⟨_, rfl⟩
 rw [← hT] at hwith ⊢
 obtain ⟨U, hU⟩ : ∃ U, U = str k := ⟨_, rfl⟩
 rw [← hU] at hat ⊢
 have cp := blk_cell (blk_a1 w #[.int .i64 q, .int .i64 d, .int .i64 x, .string S] 113 zpO)
 have B := Lib.hid (below_al (below_al (Below.refl _ w) (pagO q d x S)) zpO)
 have Q := Lib.hid (blk_a1 w #[.int .i64 q, .int .i64 d, .int .i64 x, .string S] 113 zpO)
 have Z := Lib.hid (blk_a2 w (pagO q d x S) #[.int .i64 0, .int .i64 0, .int .i64 0, .string ⟨#[]⟩] 113)
 have hbs : ((w.alloc (pagO q d x S)).alloc zpO).heap.size = w.heap.size + 2 := by simp
 have Hbs := Lib.hid hbs
 obtain ⟨P, hP⟩ : ∃ P, P = pos k l := ⟨_, rfl⟩
 rw [← hP] at hat hpl hieq
 have Hat := Lib.hid hat
 have Hwith := Lib.hid hwith
 have Hieq := Lib.hid hieq
 have Hpl := Lib.hid hpl
 clear hS hp hs hat hwith hieq hpl hhas hT hU hP hbs hf hcl
 go_enter Tryz.func141, Tryz.ntmps141
 go_wp2_with fail
 with_reducible refine (hget _).mono ?_
 rintro e w1 ⟨A, cap, rfl, ho, hb1⟩
 rw [Hbs.out] at ho
 have O1 := Lib.hid ho
 have B1 := Lib.hid (below_tr B.out hb1)
 have Z1 := Lib.hid (blk_keep Z.out hb1)
 have Q1 := Lib.hid (blk_keep Q.out hb1)
 have hat1 := Hat.out A cap w1 (Cels.of_own ho)
 clear ho hb1 cp hget Z B Q Hat
 go_wp2_with fail
 with_reducible refine hat1.mono ?_
 rintro e w2 ⟨rfl, hb2⟩
 have o2 := own_below O1.out hb2
 have B2 := Lib.hid (below_tr B1.out hb2)
 have z2 := blk_keep Z1.out hb2
 have q2 := blk_keep Q1.out hb2
 have hl2 : w.heap.size + 2 ≤ w2.heap.size := lt_of_block z2
 have i1 : IntKind.i64.wrap ((P : Int) + 1) = (P : Int) + 1 := IntWalk.i64_in _ (by have := Hpl.out; omega)
 have hdel := delete_own w2.drew (w.heap.size + 2) A cap l.length P l rfl o2 (by omega) hl2 Hpl.out
 have hl3 : l.length - 1 = (l.eraseIdx P).length := by rw [List.length_eraseIdx, if_pos Hpl.out]
 have Hl3 := Lib.hid hl3
 have Hdel := Lib.hid hdel
 clear O1 B1 Z1 Q1 hb2 hat1 o2 hl3 hdel
 go_wp2_with fail
 refine wp_region_held_drew (S := (fun W' => Below w.heap.size w W' ∧ W'.heap[w.heap.size]? = some (.cells #[.int .i64 q, .int .i64 d, .int .i64 x, .string S] 113 (0, 0)))) (by kernel_rfl) (⟨below_dr B2.out, q2⟩) (fun hHeld => ?_)
 refine Ra.W 0 ?_ ?_ hHeld ?_
 rotate_left
 · intro wq hSw
   have hSc := blk_cell hSw.2; have hSl := lt_of_block hSw.2
   go_simp
   try with_reducible rfl
 try simp only [Act.put, List.getElem_toArray, List.getElem_cons_succ, List.getElem_cons_zero, List.setIfInBounds_toArray, List.set_cons_zero, List.set_cons_succ]
 refine Ra.W 1 ?_ ?_ hHeld ?_
 rotate_left
 · intro wq hSw
   go_simp
   try with_reducible rfl
 try simp only [Act.put, List.getElem_toArray, List.getElem_cons_succ, List.getElem_cons_zero, List.setIfInBounds_toArray, List.set_cons_zero, List.set_cons_succ]
 refine Ra.W 2 ?_ ?_ hHeld ?_
 rotate_left
 · intro wq hSw
   go_simp
   try with_reducible rfl
 try simp only [Act.put, List.getElem_toArray, List.getElem_cons_succ, List.getElem_cons_zero, List.setIfInBounds_toArray, List.set_cons_zero, List.set_cons_succ]
 refine Ra.W 3 ?_ ?_ hHeld ?_
 rotate_left
 · intro wq hSw
   go_simp
   try with_reducible rfl
 try simp only [Act.put, List.getElem_toArray, List.getElem_cons_succ, List.getElem_cons_zero, List.setIfInBounds_toArray, List.set_cons_zero, List.set_cons_succ]
 refine Ra.W 4 ?_ ?_ hHeld ?_
 rotate_left
 · intro wq hSw
   go_simp
   try rw [if_neg (by omega)]
   try rw [if_pos (by omega)]
   try with_reducible rfl
 try simp only [Act.put, List.getElem_toArray, List.getElem_cons_succ, List.getElem_cons_zero, List.setIfInBounds_toArray, List.set_cons_zero, List.set_cons_succ]
 refine wpAnyH_ready (rs := [5]) (by kernel_rfl) (by simp) ?_
 refine AllReadyH.cons rfl (fun K hK => ?_) AllReadyH.nil
 rw [if_pos (by kernel_rfl)]
 go_simp
 (with_reducible refine Hdel.out.mono ?_)
 rintro e w4 ⟨A', cap', rfl, ho4, hb4⟩
 have z4 := Lib.hid ((hb4.block (w.heap.size + 1) (by omega)).trans z2)
 have hw4 := Hwith.out A' (l.length - 1) cap' w4 (by rw [Hieq.out]; exact Hl3.out) (by rw [Hieq.out]; exact Cels.of_own ho4)
 clear z2 q2 B2 ho4 Hdel Hwith Hieq Hl3
 go_simp
 refine hK.out _ _ (⟨hHeld.1.trans (hb4.mono (by omega)), (hb4.block w.heap.size (by omega)).trans hHeld.2⟩) (fun hHeld2 => ?_)
 clear hK K
 try clear hHeld
 have hHeld := hHeld2
 try clear hHeld2
 refine wpAnyH_ready (rs := [6]) (by kernel_rfl) (by simp) ?_
 refine AllReadyH.cons rfl (fun K hK => ?_) AllReadyH.nil
 rw [if_pos (by kernel_rfl)]
 go_simp
 (with_reducible refine hw4.mono ?_)
 rintro e w5 ⟨rfl, hb5⟩
 have z5 := blk_keep z4.out hb5
 have cz5 := blk_cell z5
 have fz5 := blk_free z5
 have lz5 := lt_of_block z5
 clear z4 hw4
 go_simp
 refine hK.out _ _ (⟨below_tr hHeld.1 hb5, blk_keep hHeld.2 hb5⟩) (fun hHeld2 => ?_)
 clear hK K
 try clear hHeld
 have hHeld := hHeld2
 try clear hHeld2
 refine Ra.W 7 ?_ ?_ hHeld ?_
 rotate_left
 · intro wq hSw
   go_simp
   try with_reducible rfl
 try simp only [Act.put, List.getElem_toArray, List.getElem_cons_succ, List.getElem_cons_zero, List.setIfInBounds_toArray, List.set_cons_zero, List.set_cons_succ]
 refine Ra.W 8 ?_ ?_ hHeld ?_
 rotate_left
 · intro wq hSw
   go_simp
   try with_reducible rfl
 try simp only [Act.put, List.getElem_toArray, List.getElem_cons_succ, List.getElem_cons_zero, List.setIfInBounds_toArray, List.set_cons_zero, List.set_cons_succ]
 refine wpAnyH_ready (rs := [9]) (by kernel_rfl) (by simp) ?_
 refine AllReadyH.cons rfl (fun K hK => ?_) AllReadyH.nil
 rw [if_pos (by kernel_rfl)]
 go_simp
 skip
 refine hK.out _ _ (⟨below_set4 hHeld.1 (show w.heap.size ≤ w.heap.size + 1 by omega) _ _ _ _, hs4 hHeld.2 (by omega)⟩) (fun hHeld2 => ?_)
 clear hK K
 try clear hHeld
 have hHeld := hHeld2
 try clear hHeld2
 refine Ra.W 10 ?_ ?_ hHeld ?_
 rotate_left
 · intro wq hSw
   go_simp
   try with_reducible rfl
 try simp only [Act.put, List.getElem_toArray, List.getElem_cons_succ, List.getElem_cons_zero, List.setIfInBounds_toArray, List.set_cons_zero, List.set_cons_succ]
 refine wpAnyH_done (by kernel_rfl) ?_ _
 have zf := blk_cell (set4_same z5 (.int .i64 q) (.int .i64 d) (.int .i64 x) (.string T))
 have HB := Lib.hid hHeld.1
 clear hHeld z5
 go_wp2_with fail
 refine bodyPost_ret (v := .tuple #[.agg #[.int .i64 q, .int .i64 d, .int .i64 x, .string T], .int .i64 0]) (by simp [results, Tryz.results141, go_sem, zf]) rfl ⟨rfl, HB.out⟩
theorem szs_step (l : List Cel) (j : Nat) (hj : j < l.length) : szs (l.take (j + 1)) = szs (l.take j) + (l[j]).sz := by
 rw [List.take_succ_eq_append_getElem hj, szs_append]; simp [szs]
set_option maxRecDepth 100000 in
set_option maxHeartbeats 2000000 in
theorem room_any (p : Pag) (l : List Cel) (hp : Bkt p l) (w : World) :
 Calls Tryz.prog 189 #[p.v] w fun e w' => e = .returned (.int .i64 ((239 - szs l : Nat) : Int)) ∧ Below w.heap.size w w' := by
 have hlen := hp.fits.len
 have hroom := hp.fits.room
 have hget := bcells_ok p l hp
 have hsz := fun j (hj : j < l.length) W => size_any l[j] W (by have := (hp.fits.ok _ (List.getElem_mem hj)).key.2; omega) (by have := (hp.fits.ok _ (List.getElem_mem hj)).rest; rcases this with h | h; omega; rw [h.2.2.1]; simp)
 have hstep := fun j (hj : j < l.length) => szs_step l j hj
 have hszc := fun j (hj : j < l.length) => sz_le _ (hp.fits.ok _ (List.getElem_mem hj))
 have htk := fun j => szs_take_le l j
 obtain ⟨q, d, x, body⟩ := p
 simp only [Pag.v] at hget ⊢
 obtain ⟨S, hS⟩ : ∃ S, S = str body := ⟨_, rfl⟩
 rw [← hS] at hget ⊢
 have cp := blk_cell (heap_alloc_new w (pagO q d x S))
 have B := Lib.hid (below_al (Below.refl _ w) (pagO q d x S))
 have Hsz := Lib.hid hsz
 have Hst := Lib.hid hstep
 have Htk := Lib.hid htk
 have Hszc := Lib.hid hszc
 clear hS hp hsz hstep htk hszc
 go_enter Tryz.func189, Tryz.ntmps189
 go_wp2_with fail
 with_reducible refine (hget _).mono ?_
 rintro e w1 ⟨A, cap, rfl, ho, hb1⟩
 have HA := Lib.hid (Cels.of_own ho)
 have B1 := Lib.hid (below_tr B.out hb1)
 have R1 := Lib.hid (Below.refl w1.heap.size w1)
 clear ho hb1 cp hget B
 go_wp2_with fail
 go_loopw [5, 17] (fun v i wr => ∃ j : Nat, v = .int .i64 ((239 - szs (l.take j) : Nat) : Int) ∧ i = .int .i64 j ∧ j ≤ l.length ∧ Hid (Below w1.heap.size w1 wr)) (fun _ i _ => l.length - (intOf i).toNat)
 case atStart => exact ⟨0, by simp [szs], rfl, Nat.zero_le _, R1⟩
 case round =>
  clear R1
  obtain ⟨j, rfl, rfl, hj, hb⟩ := hrel
  by_cases hlt : j < l.length
  · have d1 : decide ((j : Int) < (l.length : Int)) = true := by simpa using hlt
    have hlt' : (j : Int) < (l.length : Int) := by omega
    have i1 : IntKind.i64.wrap ((j : Int) + 1) = (j : Int) + 1 := IntWalk.i64_in _ (by omega)
    obtain ⟨b0, off, rfl, hbl, hcell⟩ := HA.out (by omega)
    have hx := fun r u (hr : (l[j]).cells[r]? = some u) => (hb.out.cell (p := ⟨b0, off + j * 4 + r, none⟩) hbl).trans (hcell j _ (List.getElem?_eq_getElem hlt) r u hr)
    have hbw : b0 < wr.heap.size := Nat.lt_of_lt_of_le hbl hb.out.size
    have hsize := Hsz.out j hlt
    have hst := Hst.out j hlt
    have h60 := Hszc.out j hlt
    have hle2 := Htk.out (j + 1)
    obtain ⟨y, hy⟩ : ∃ y, y = l[j] := ⟨_, rfl⟩
    rw [← hy] at hx hsize hst h60
    obtain ⟨ck, cv, cb, cz⟩ := y
    obtain ⟨z, hz⟩ : ∃ z, z = Cel.sz ⟨ck, cv, cb, cz⟩ := ⟨_, rfl⟩
    rw [← hz] at hsize hst h60
    simp only [Cel.v] at hsize
    have c0 := hx 0 _ rfl
    have c1 := hx 1 _ rfl
    have c2 := hx 2 _ rfl
    have c3 := hx 3 _ rfl
    simp only [Nat.add_zero] at c0
    obtain ⟨V, hV⟩ : ∃ V, V = szs (l.take j) := ⟨_, rfl⟩
    have hV2 : szs (l.take (j + 1)) = V + z := by rw [hV]; exact hst
    rw [← hV]
    have hr2 : V + z ≤ 239 := by omega
    have hsub : ((239 - V : Nat) : Int) - (z : Int) = ((239 - (V + z) : Nat) : Int) := by omega
    have hw2 : IntKind.i64.wrap (((239 - V : Nat) : Int) - (z : Int)) = ((239 - V : Nat) : Int) - (z : Int) := IntWalk.i64_in _ (by omega)
    have kb := heap_alloc_new wr (celO (str ck) (str cv) cb cz)
    have kc := blk_cell kb
    have B2 := Lib.hid (below_al hb.out (celO (str ck) (str cv) cb cz))
    have HV2 := Lib.hid hV2
    have Hsub := Lib.hid hsub
    clear hx hcell hy hst hz hV hV2 hsub kb hb hle2
    go_wp2_with fail
    with_reducible refine (hsize _).mono ?_
    rintro e w2 ⟨rfl, hb2⟩
    have B3 := Lib.hid (below_base B2.out B2.out.size hb2)
    clear hb2 B2 c0 c1 c2 c3 kc hsize
    go_wp2_with fail
    refine ⟨⟨j + 1, by rw [HV2.out, ← Hsub.out], by simp, by omega, B3⟩, ?_⟩
    clear i1 hw2
    simp [intOf]; omega
  · obtain rfl : j = l.length := by omega
    rw [List.take_length]
    have B2 := Lib.hid (below_tr B1.out hb.out)
    go_wp2_with fail
    go_ret
    exact ⟨rfl, B2.out⟩
end Go.Proofs.YtijhamllnnilbaaGreatDoor.Ha
