/- HashReplaces: the walk. -/
import Derived.Test.YtijhamllnnilbaaGreatDoorHoneM
namespace Go.Proofs.YtijhamllnnilbaaGreatDoor.Ha
open Go.RowKit Go.Proofs.YtijhamllnnilbaaGreatDoor.Mem Go.Proofs.YtijhamllnnilbaaGreatDoor.Pg Go.Proofs.YtijhamllnnilbaaGreatDoor.Kp Go.Proofs.YtijhamllnnilbaaGreatDoor.Sp Go.Proofs.YtijhamllnnilbaaGreatDoor.Gr
set_option linter.unusedSimpArgs false
set_option linter.unusedVariables false
def Rp (w0 w : World) (gb mb sb qb c : Nat) (key : List UInt8) (V : Option (List UInt8)) : Prop :=
 ∃ pg D t ml X pl, St w0 w gb mb sb qb c 30 pg D t ml X (-1 + (X.length : Int)) ∧ Vt 30 pg t X [] (FK key V) pl ∧ One t ∧ X.length ≤ 2
def Rg (w0 w : World) (gb mb sb qb c : Nat) (key : List UInt8) (V : Option (List UInt8)) (old : Value) (E : Int) (X : List Nat) (pl : Cel → List Nat) (t : Tri) : Prop :=
 ∃ pg D ml, St w0 w gb mb sb qb c 30 pg D t ml X (-1 + (X.length : Int)) ∧ Vt 30 pg t X [] (FK key V) pl ∧ One t ∧ X.length ≤ 2 ∧ ((E = 3 ∧ lookT t key = none) ∨ (E = 0 ∧ ∃ y v, lookT t key = some y ∧ y.ok ∧ BlobAt 30 pg y v (pl y) ∧ y ∈ cellsT t ∧ old = y.v))
def Rq (w0 w : World) (gb mb sb qb c : Nat) (key : List UInt8) (v : List UInt8) (R : List Nat) : Prop :=
 ∃ pg D t ml X pl, St w0 w gb mb sb qb c 30 pg D t ml X (-1 + (X.length : Int)) ∧ Vt 30 pg t X R (FK key (some v)) pl ∧ One t ∧ X.length ≤ 2 + R.length ∧ R.length ≤ 2
section
variable {w0 w w' : World} {gb mb sb qb c : Nat} {key : List UInt8} {V : Option (List UInt8)} {v : List UInt8} {R : List Nat}
theorem Rp.below (h : Rp w0 w gb mb sb qb c key V) (k : Below w.heap.size w w') : Rp w0 w' gb mb sb qb c key V := by
 obtain ⟨pg, D, t, ml, X, pl, h1, h2⟩ := h
 exact ⟨pg, D, t, ml, X, pl, h1.below k, h2⟩
theorem Rg.below {old : Value} {E : Int} {X : List Nat} {pl : Cel → List Nat} {t : Tri} (h : Rg w0 w gb mb sb qb c key V old E X pl t) (k : Below w.heap.size w w') : Rg w0 w' gb mb sb qb c key V old E X pl t := by
 obtain ⟨pg, D, ml, h1, h2⟩ := h
 exact ⟨pg, D, ml, h1.below k, h2⟩
theorem Rq.below (h : Rq w0 w gb mb sb qb c key v R) (k : Below w.heap.size w w') : Rq w0 w' gb mb sb qb c key v R := by
 obtain ⟨pg, D, t, ml, X, pl, h1, h2⟩ := h
 exact ⟨pg, D, t, ml, X, pl, h1.below k, h2⟩
theorem Rq.done (h : Rq w0 w gb mb sb qb c key v []) : Rp w0 w gb mb sb qb c key (some v) := by
 obtain ⟨pg, D, t, ml, X, pl, h1, h2, h3, h4, _⟩ := h
 exact ⟨pg, D, t, ml, X, pl, h1, h2, h3, h4⟩
end
theorem rp_get (w0 w : World) (gb mb sb qb c : Nat) (key : List UInt8) (V : Option (List UInt8)) (hk : keyOk key) (h : Rp w0 w gb mb sb qb c key V) :
 Calls Tryz.prog 25 #[.pointer (some ⟨gb, 0, none⟩), .string (str key)] w fun e w' => ∃ (U1 U2 : ByteArray) (xb xz E : Int) (X : List Nat) (pl : Cel → List Nat) (t : Tri), e = .returned (.tuple #[.agg #[.string U1, .string U2, .int .i64 xb, .int .i64 xz], .int .i64 E]) ∧ (E = 0 ∨ E = 3) ∧ Below w.heap.size w w' ∧
  Rg w0 w' gb mb sb qb c key V (.agg #[.string U1, .string U2, .int .i64 xb, .int .i64 xz]) E X pl t := by
 obtain ⟨pg, D, t, ml, X, pl, hs, hv, ho, hx⟩ := h
 refine (get_vt hs hv key hk).mono ?_
 rintro e w' ⟨h1, h2, h3⟩
 rcases h1 with ⟨rfl, h4, h5⟩ | ⟨x, v, rfl, h4, h5, h6, h7, h8, h9⟩
 · exact ⟨⟨#[]⟩, ⟨#[]⟩, 0, 0, 3, X, pl, t, rfl, .inr rfl, h3, pg, D, ml, h2, hv, ho, hx, .inl ⟨rfl, h5⟩⟩
 · exact ⟨_, _, _, _, 0, X, pl, t, rfl, .inl rfl, h3, pg, D, ml, h2, hv, ho, hx, .inr ⟨rfl, x, v, h5, h7, h9, h8, rfl⟩⟩
def Rs (w0 w : World) (gb mb sb qb c : Nat) (key : List UInt8) (V : Option (List UInt8)) (old : Value) (E : Int) (X : List Nat) (pl : Cel → List Nat) (t : Tri) (x : Cel) (v : List UInt8) (l : List Nat) : Prop :=
 ∃ pg D ml, St w0 w gb mb sb qb c 30 pg D t ml (X ++ l) (-1 + ((X ++ l).length : Int)) ∧ Vt 30 pg t (X ++ l) l (FK key V) pl ∧ One t ∧ X.length ≤ 2 ∧ x.key = key ∧ x.ok ∧ BlobAt 30 pg x v l ∧ l.length ≤ 2 ∧
  ((E = 3 ∧ lookT t key = none) ∨ (E = 0 ∧ ∃ y u, lookT t key = some y ∧ y.ok ∧ BlobAt 30 pg y u (pl y) ∧ y ∈ cellsT t ∧ old = y.v))
theorem rg_store (w0 w : World) (gb mb sb qb c : Nat) (key : List UInt8) (V : Option (List UInt8)) (old : Value) (E : Int) (X : List Nat) (pl : Cel → List Nat) (t : Tri) (v : List UInt8) (hk : keyOk key) (hv : v.length ≤ 400) (h : Rg w0 w gb mb sb qb c key V old E X pl t) :
 Calls Tryz.prog 24 #[.pointer (some ⟨gb, 0, none⟩), .string (str key), .string (str v)] w fun e w' => ∃ (x : Cel) (l : List Nat) (B : Option Addr) (cc : Nat), e = .returned (.tuple #[.agg #[.string (str x.key), .string (str x.val), .int .i64 x.blob, .int .i64 x.size], .slice B l.length cc, .int .i64 0]) ∧
  Rs w0 w' gb mb sb qb c key V old E X pl t x v l ∧ Wk w0.heap.size gb mb w w' := by
 obtain ⟨pg, D, ml, hs, hvt, ho, hx, hor⟩ := h
 refine (store_all hs key v hk hv (by omega)).mono ?_
 rintro e w' ⟨hp, hw⟩
 rcases hp with ⟨x, l, B, cc, pg', ml', rfl, hxk, hxo, hb, _, hst, hsx⟩ | ⟨_, hno⟩
 · refine ⟨x, l, B, cc, rfl, ⟨pg', D, ml', ?_, (hvt.stored l hsx), ho, hx, hxk, hxo, hb, by rw [hb.len hxo]; exact pgV_le v, ?_⟩, hw⟩
   · have e1 : -1 + ((X ++ l).length : Int) = -1 + (X.length : Int) + (l.length : Int) := by rw [List.length_append]; omega
     rw [e1]
     exact hst
   · rcases hor with h | ⟨h1, y, u, h2, h3, h4, h5, h6⟩
     · exact .inl h
     · exact .inr ⟨h1, y, u, h2, h3, h4.same (fun m hm => hsx m (hvt.memX h5 hm)), h5, h6⟩
 · have h1 := ho.len
   have h2 := pgV_le v
   omega
theorem rs_set (w0 w : World) (gb mb sb qb c : Nat) (key : List UInt8) (V : Option (List UInt8)) (old : Value) (E : Int) (X : List Nat) (pl : Cel → List Nat) (t : Tri) (x : Cel) (v : List UInt8) (l : List Nat) (hk : keyOk key) (h : Rs w0 w gb mb sb qb c key V old E X pl t x v l) :
 Calls Tryz.prog 18 #[.pointer (some ⟨gb, 0, none⟩), .agg #[.string (str x.key), .string (str x.val), .int .i64 x.blob, .int .i64 x.size], .bool true] w fun e w' => e = .returned (.int .i64 0) ∧
  (∃ R, Rq w0 w' gb mb sb qb c key v R ∧ ((E = 3 ∧ R = []) ∨ (E = 0 ∧ ∃ y u pg1, y.ok ∧ BlobAt 30 pg1 y u R ∧ old = y.v ∧ ∃ tk1, ∀ V2, Below w'.heap.size w' V2 → GV w0 V2 gb mb sb qb c 30 pg1 tk1))) ∧ Wk w0.heap.size gb mb w w' := by
 obtain ⟨pg, D, ml, hs, hvt, ho, hx, hxk, hxo, hb, hl2, hor⟩ := h
 subst hxk
 have hL : (X ++ l).length = X.length + l.length := List.length_append
 refine (set_okX w0 w gb mb sb qb c 30 D pg t ml (X ++ l) _ x true hs hxo (by omega) (fun _ => split_law w0 gb mb sb qb c 30 (X ++ l) _ x.key (by have := hk.2; omega) (by omega))).mono ?_
 rintro e w' ⟨hp, hw⟩
 have hroom := ho.room x hxo (FK.keys hvt _)
 obtain ⟨rfl, pg', D', t', ml', hst, hso, hlk, hsx⟩ := set_roomX hroom hp
 have hvt2 := (hvt.frame hsx).put hs.hs.tb hst.hs.tb x v l [] hlk (hb.same (fun m hm => hsx m (List.mem_append_right _ hm))) (by rw [List.append_nil])
 rw [FK.upd, List.append_nil] at hvt2
 have hpl : (plOf t pl x.key).length ≤ 2 := by
  rcases hor with ⟨_, h2⟩ | ⟨_, y, u, h2, h3, h4, h5, h6⟩
  · rw [plOf_none h2]; simp
  · rw [plOf_some h2, h4.len h3]; exact pgV_le u
 have hused := hvt2.used.length_eq
 refine ⟨rfl, ⟨plOf t pl x.key, ⟨pg', D', t', ml', X ++ l, _, hst, hvt2, ho.set hroom hso, ?_, hpl⟩, ?_⟩, hw⟩
 · have hc : cellsT t' = [x] := cells_one hst.hs.tb x (fun k => by
    rw [hlk k]
    by_cases e : k = x.key
    · rw [if_pos e, if_pos e]
    · rw [if_neg e, if_neg e]
      cases e2 : lookT t k with
      | none => rfl
      | some y =>
       have h1 := (cells_look hs.hs.tb y).2 (by rw [(lookF_mem e2).2]; exact e2)
       obtain ⟨b, hbm, hyb⟩ := List.mem_flatMap.1 h1
       obtain ⟨i, _, rfl⟩ := Tri.mem_at t b hbm
       have h2 := FK.keys hvt i y hyb
       exact absurd ((lookF_mem e2).2.symm.trans h2) e)
   rw [hc] at hused
   simp only [List.flatMap_cons, List.flatMap_nil, List.append_nil, if_pos, List.length_append] at hused
   rw [List.length_append]
   omega
 · rcases hor with ⟨h1, h2⟩ | ⟨h1, y, u, h2, h3, h4, h5, h6⟩
   · exact .inl ⟨h1, plOf_none h2⟩
   · refine .inr ⟨h1, y, u, pg', h3, ?_, h6, _, fun V2 hV => hst.gv.below hV⟩
     rw [plOf_some h2]
     exact h4.same (fun m hm => hsx m (hvt.memX h5 hm))
theorem rq_give (w0 w : World) (gb mb sb qb c : Nat) (key v : List UInt8) (y : Nat) (R : List Nat) (h : Rq w0 w gb mb sb qb c key v (y :: R)) :
 Calls Tryz.prog 28 #[.pointer (some ⟨gb, 0, none⟩), .int .i64 y] w fun e w' => e = .returned (.int .i64 0) ∧ Rq w0 w' gb mb sb qb c key v R ∧ Wk w0.heap.size gb mb w w' := by
 obtain ⟨pg, D, t, ml, X, pl, hs, hv, ho, hx, hr⟩ := h
 have hy : y ∈ X := hv.memR (List.mem_cons_self ..)
 simp only [List.length_cons] at hx hr
 refine (give_ok hs hy (by omega)).mono ?_
 rintro e w' ⟨rfl, ⟨pg', ml', hst, hsx⟩, hw⟩
 have h1 := List.length_erase_of_mem hy
 have h2 := List.length_pos_of_mem hy
 refine ⟨rfl, ⟨pg', D, t, ml', X.erase y, pl, ?_, ?_, ho, by omega, by omega⟩, hw⟩
 · have e1 : -1 + ((X.erase y).length : Int) = -1 + (X.length : Int) - 1 := by omega
   rw [e1]
   exact hst
 · have h3 := (hv.frame hsx).give hs.hs.xn (List.mem_cons_self ..)
   rw [List.erase_cons_head] at h3
   exact h3
theorem rp_dump (w0 w : World) (gb mb sb qb c : Nat) (key v : List UInt8) (h : Rp w0 w gb mb sb qb c key (some v)) :
 Calls Tryz.prog 19 #[.pointer (some ⟨gb, 0, none⟩)] w fun e w' => ∃ g cap, e = .returned (.tuple #[.slice (some ⟨g, 0, none⟩) 1 cap, .int .i64 0]) ∧ w'.cell? ⟨g, 0, none⟩ = some (.string (str key)) ∧ w'.cell? ⟨g, 1, none⟩ = some (.string (str v)) ∧ g < w'.heap.size ∧ Rp w0 w' gb mb sb qb c key (some v) ∧ Below w.heap.size w w' := by
 obtain ⟨pg, D, t, ml, X, pl, hs, hv, ho, hx⟩ := h
 have hF : FK key (some v) key = some v := if_pos rfl
 rcases hv.look hs.hs.tb key with ⟨_, h1⟩ | ⟨y, u, h1, h2, h3, h4, h5, h6⟩
 · rw [hF] at h1; cases h1
 · rw [hF] at h3
   injection h3 with h3
   subst h3 h2
   have hc : cellsT t = [y] := cells_one hs.hs.tb y (fun k => by
    by_cases e : k = y.key
    · rw [if_pos e, e]; exact h1
    · rw [if_neg e]
      cases e2 : lookT t k with
      | none => rfl
      | some z =>
       have h7 := (cells_look hs.hs.tb z).2 (by rw [(lookF_mem e2).2]; exact e2)
       obtain ⟨b, hbm, hzb⟩ := List.mem_flatMap.1 h7
       obtain ⟨i, _, rfl⟩ := Tri.mem_at t b hbm
       exact absurd ((lookF_mem e2).2.symm.trans (FK.keys hv i z hzb)) e)
   refine (dump_single w0 w gb mb sb qb c 30 D pg _ t hs.gv hs.hs.tb y v (pl y) hc h6).mono ?_
   rintro e w' ⟨g, cap, rfl, hc0, hc1, hl, hg, hb⟩
   exact ⟨g, cap, rfl, hc0, hc1, hl, ⟨pg, D, t, ml, X, pl, ⟨hg, hs.hs⟩, hv, ho, hx⟩, hb⟩
theorem rp_check (w0 w : World) (gb mb sb qb c : Nat) (key v : List UInt8) (h : Rp w0 w gb mb sb qb c key (some v)) :
 Calls Tryz.prog 21 #[.pointer (some ⟨gb, 0, none⟩), .int .i64 30, .slice none 0 0] w fun e w' => e = .returned (.int .i64 0) ∧ Rp w0 w' gb mb sb qb c key (some v) ∧ Below w.heap.size w w' := by
 obtain ⟨pg, D, t, ml, X, pl, hs, hv, ho, hx⟩ := h
 refine (check_vt hs hv).mono ?_
 rintro e w' ⟨rfl, hst, hb⟩
 exact ⟨rfl, ⟨pg, D, t, ml, X, pl, hst, hv, ho, hx⟩, hb⟩
theorem Rp.ord {w0 w : World} {gb mb sb qb c : Nat} {key : List UInt8} {V : Option (List UInt8)} (h : Rp w0 w gb mb sb qb c key V) : gb < w.heap.size ∧ mb < w.heap.size := by
 obtain ⟨pg, D, t, ml, X, pl, hs, _⟩ := h
 exact ⟨hs.gv.lt.1, hs.gv.lt.2.1⟩
theorem Rs.below {w0 w w' : World} {gb mb sb qb c : Nat} {key : List UInt8} {V : Option (List UInt8)} {old : Value} {E : Int} {X : List Nat} {pl : Cel → List Nat} {t : Tri} {x : Cel} {v : List UInt8} {l : List Nat} (h : Rs w0 w gb mb sb qb c key V old E X pl t x v l) (k : Below w.heap.size w w') : Rs w0 w' gb mb sb qb c key V old E X pl t x v l := by
 obtain ⟨pg, D, ml, h1, h2⟩ := h
 exact ⟨pg, D, ml, h1.below k, h2⟩
theorem rp_new {w0 w : World} {gb mb sb qb c : Nat} {key : List UInt8} (h : St w0 w gb mb sb qb c 30 (pgNew 30) 0 t00 (fmtL 30) [] (-1)) : Rp w0 w gb mb sb qb c key none :=
 ⟨pgNew 30, 0, t00, fmtL 30, [], fun _ => [], h, (vt00 30 (pgNew 30) _).congr (fun k => by unfold FK; by_cases e : k = key; rw [if_pos e]; rw [if_neg e]), one00, Nat.zero_le _⟩
set_option maxRecDepth 100000 in
set_option maxHeartbeats 16000000 in
theorem repl_any (key : List UInt8) (A : Option Addr) (n cp : Nat) (xs : List Int) (w : World) (ht : Tab w) (hk64 : key.length ≤ 140737488351232) (hI : n ≤ 1000 → Ints w A n xs) :
 Calls Tryz.prog 5 #[.string (str key), .slice A n cp] w fun e w' => e = .returned (.bool true) ∧ Below w.heap.size w w' := by
 have Hal := Lib.hid (fun W (k : Tab W) => alive_any W k)
 have hkey := fun W => key_any key W
 have Ht := Lib.hid ht
 have HI0 := Lib.hid hI
 clear ht hI
 by_cases hko : keyOk key
 · rw [decide_eq_true hko] at hkey
   by_cases hlong : 12 < n
   · obtain ⟨U, hU⟩ : ∃ U, U = str key := ⟨_, rfl⟩
     rw [← hU] at hkey ⊢
     have h1I : (12 : Int) < (n : Int) := by omega
     clear hU
     go_enter Tryz.func5, Tryz.ntmps5
     go_wp2_with fail
     with_reducible refine (hkey _).mono ?_
     rintro e w1 ⟨rfl, rfl⟩
     go_wp2_with fail
     with_reducible refine (Hal.out _ Ht.out).mono ?_
     rintro e w2 ⟨rfl, hb1⟩
     have B1 := Lib.hid hb1
     clear hb1
     go_wp2_with fail
     go_ret
     exact ⟨rfl, B1.out⟩
   · have h1I : ¬ (12 : Int) < (n : Int) := by omega
     have HI := Lib.hid (HI0.out (by omega))
     have hnew : ∀ W, Tab W → Calls Tryz.prog 14 #[.int .i64 30] W fun e w' => ∃ sb qb c, e = .returned (.pointer (some ⟨sb, 0, none⟩)) ∧ W.heap.size ≤ sb ∧ W.heap.size ≤ qb ∧ Below W.heap.size W w' ∧ Sto w' sb qb 30 c (-1) (bnew 30 3) := fun W h => newT_any 30 W h (by omega) (by omega)
     have Hnew := Lib.hid hnew
     have HKO := Lib.hid hko
     have hget := fun W gb mb sb qb c V (h : Rp w W gb mb sb qb c key V) => rp_get w W gb mb sb qb c key V hko h
     have hsto := fun W gb mb sb qb c V old E X pl t v (hv : v.length ≤ 400) (h : Rg w W gb mb sb qb c key V old E X pl t) => rg_store w W gb mb sb qb c key V old E X pl t v hko hv h
     have hdmp := fun W gb mb sb qb c v (h : Rp w W gb mb sb qb c key (some v)) => rp_dump w W gb mb sb qb c key v h
     obtain ⟨U, hU⟩ : ∃ U, U = str key := ⟨_, rfl⟩
     simp only [← hU] at hget hsto hdmp
     rw [← hU] at hkey ⊢
     have Hget := Lib.hid hget
     have Hsto := Lib.hid hsto
     have Hdmp := Lib.hid hdmp
     clear hU hnew hko hget hsto hdmp
     go_enter Tryz.func5, Tryz.ntmps5
     go_wp2_with fail
     with_reducible refine (hkey _).mono ?_
     rintro e wk ⟨rfl, rfl⟩
     go_wp2_with fail
     with_reducible refine (Hal.out _ Ht.out).mono ?_
     rintro e wz ⟨rfl, hbz⟩
     have Tz := Lib.hid (Ht.out.below hbz)
     have Bz0 := Lib.hid hbz
     clear hbz
     go_wp2_with fail
     with_reducible refine (Hnew.out _ Tz.out).mono ?_
     rintro e w1 ⟨sb, qb, c, rfl, hsb, hqb, hb1, hs1⟩
     have T1 := Lib.hid (Tz.out.below hb1)
     have S1 := Lib.hid hs1
     have B1 := Lib.hid (below_base Bz0.out Bz0.out.size hb1)
     clear hs1 hb1 Hnew
     go_wp2_with fail
     with_reducible refine (newG_any wk w1 30 sb qb c (bnew 30 3) (pgNew 30) T1.out S1.out (fun i _ => bnew_shows 30 i) B1.out).mono ?_
     rintro e w2 ⟨gb, mb, rfl, hgv, hgb, hmb, hb2⟩
     have R2 : Hid (Rp wk w2 gb mb sb qb c key none) := Lib.hid (rp_new ⟨hgv, hs_new 30 (by omega) (by omega)⟩)
     have B2 := Lib.hid (below_base B1.out B1.out.size hb2)
     have hob : wk.heap.size ≤ gb ∧ wk.heap.size ≤ mb := ⟨hgv.ord.1, hgv.ord.2.1⟩
     clear hgv hb2 hsb hqb hgb hmb T1 S1 B1 Tz Bz0
     go_wp2_with fail
     go_loopg [41] n (fun g v41 wr => ∃ (k : Nat) (V : Option (List UInt8)), v41 = .int .i64 (k : Nat) ∧ g + k = n ∧ Hid (Rp wk wr gb mb sb qb c key V) ∧ Hid (Below wk.heap.size wk wr))
     case atStart => exact ⟨0, none, rfl, by omega, R2, B2⟩
     case round =>
      clear R2 B2
      obtain ⟨k, V, rfl, hk, R3, B3⟩ := hrel
      by_cases hlt : k < n
      · have hkI : (k : Int) < (n : Int) := by omega
        have i1 : IntKind.i64.wrap ((k : Int) + 1) = (k : Int) + 1 := IntWalk.i64_in _ (by omega)
        obtain ⟨kb, ko, hA, hkb, hc⟩ := HI.out.2.2 (by omega)
        subst hA
        have cK := (B3.out.cell hkb).trans (hc k hlt)
        have lK := Nat.lt_of_lt_of_le hkb B3.out.size
        obtain ⟨z, hz⟩ : ∃ z, z = xs.getD k 0 := ⟨_, rfl⟩
        rw [← hz] at cK
        clear hc hz
        by_cases hz0 : z < 0
        · go_wp2_with fail
          go_ret
          exact ⟨rfl, B3.out⟩
        · by_cases hz4 : 400 < z
          · go_wp2_with fail
            go_ret
            exact ⟨rfl, B3.out⟩
          · obtain ⟨m, rfl⟩ : ∃ m : Nat, z = m := ⟨z.toNat, by omega⟩
            have hm4 : m ≤ 400 := by omega
            have hzer := fun W => refZeros_any m W (by omega)
            have hzl : (zs m).length = m := zs_len m
            obtain ⟨zv, hzv⟩ : ∃ v, v = zs m := ⟨_, rfl⟩
            rw [← hzv] at hzl
            simp only [← hzv] at hzer
            have hst0 := fun W old E X pl t (h : Rg wk W gb mb sb qb c key V old E X pl t) => Hsto.out W gb mb sb qb c V old E X pl t zv (by omega) h
            have hdmp := fun W (h : Rp wk W gb mb sb qb c key (some zv)) => Hdmp.out W gb mb sb qb c zv h
            obtain ⟨ZU, hZU⟩ : ∃ Z, Z = str zv := ⟨_, rfl⟩
            simp only [← hZU] at hzer hst0 hdmp
            have Hzer := Lib.hid hzer
            have Hst0 := Lib.hid hst0
            have Hdm := Lib.hid hdmp
            have hgt := Hget.out wr gb mb sb qb c V R3.out
            have hgl := R3.out.ord
            have hzn : ¬ (m : Int) < 0 := hz0
            clear hzv hZU hzer hst0 hdmp hzl
            go_wp2_with fail
            with_reducible refine hgt.mono ?_
            rintro e w4 ⟨U1, U2, xb, xz, E, X, pl, t, rfl, hE, hb4, hrg⟩
            have hs4 := hb4.size
            have hs3 := B3.out.size
            have BB4 := below_al hb4 (celO U1 U2 xb xz)
            have z4 := heap_alloc_new w4 (celO U1 U2 xb xz)
            have RG := Lib.hid (hrg.below (below_al (Below.refl _ w4) (celO U1 U2 xb xz)))
            have Z4 := Lib.hid z4
            have B4 := Lib.hid (below_base B3.out B3.out.size BB4)
            have HE := Lib.hid hE
            have hz5 := Hzer.out (w4.alloc (celO U1 U2 xb xz))
            clear hrg hb4 BB4 z4 hgt hE cK lK R3
            go_wp2_with fail
            with_reducible refine hz5.mono ?_
            rintro e w5 ⟨rfl, hb5⟩
            have RG5 := RG.out.below hb5
            have hst5 := Hst0.out w5 _ E X pl t RG5
            have Z5 := Lib.hid (blk_keep Z4.out hb5)
            have B5 := Lib.hid (below_base B4.out B4.out.size hb5)
            clear hb5 hz5 RG RG5 Z4 B4
            go_wp2_with fail
            with_reducible refine hst5.mono ?_
            rintro e w6 ⟨x, l, Bx, cx, rfl, hrs, wk6⟩
            have hw4 : w4.heap.size < w5.heap.size := lt_of_block Z5.out
            have BB6 := below_al (Below.refl _ w6) (celO (str x.key) (str x.val) x.blob x.size)
            have z6 := wk6.blk Z5.out (by omega) (by omega) (by omega)
            have Z6 := Lib.hid (hal (o := celO (str x.key) (str x.val) x.blob x.size) z6)
            have y6 := heap_alloc_new w6 (celO (str x.key) (str x.val) x.blob x.size)
            have cy := blk_cell y6
            have ly := lt_of_block y6
            have B6 := Lib.hid (below_base (below_keep B5.out B5.out.size wk6.keep (by rintro i (rfl | rfl) <;> omega)) (by have h1 := B5.out.size; have h2 := wk6.size; omega) BB6)
            have hset := rs_set wk _ gb mb sb qb c key V _ E X pl t x zv l HKO.out (hrs.below BB6)
            have hw6 : w4.heap.size < (w6.alloc (celO (str x.key) (str x.val) x.blob x.size)).heap.size := lt_of_block Z6.out
            clear hrs wk6 z6 BB6 y6 hst5 Z5 B5
            go_wp2_with fail
            with_reducible refine hset.mono ?_
            rintro e w7 ⟨rfl, ⟨R, hrq, hor⟩, wk7⟩
            have RQ7 := Lib.hid hrq
            have Z7 := Lib.hid (wk7.blk Z6.out (by omega) (by omega) (by omega))
            have B7 := Lib.hid (below_keep B6.out B6.out.size wk7.keep (by rintro i (rfl | rfl) <;> omega))
            have OR7 := Lib.hid hor
            have hw7 : w4.heap.size < w7.heap.size := lt_of_block Z7.out
            clear hrq hor wk7 hset cy ly Z6 B6 hw6
            go_upto_if 75 with fail
            go_cut [] (fun W => Hid (Rp wk W gb mb sb qb c key (some zv)) ∧ Hid (Below wk.heap.size wk W))
            case first =>
             rcases HE.out with rfl | rfl
             · obtain ⟨y, u, pg1, tk1, hyo, hyb, hyv, hgv⟩ : ∃ y u pg1 tk1, y.ok ∧ BlobAt 30 pg1 y u R ∧ (.agg #[.string U1, .string U2, .int .i64 xb, .int .i64 xz] : Value) = y.v ∧ ∀ V2, Below w7.heap.size w7 V2 → GV wk V2 gb mb sb qb c 30 pg1 tk1 := by
                rcases OR7.out with ⟨h1, _⟩ | ⟨_, y, u, pg1, h2, h3, h4, tk1, h5⟩
                · cases h1
                · exact ⟨y, u, pg1, tk1, h2, h3, h4, h5⟩
               have hbl := blobs_ok wk w7 gb mb sb qb c 30 pg1 tk1 y u R (hgv _ (Below.refl _ _)) hyo hyb
               rw [← hyv] at hbl
               have cz7 := blk_cell Z7.out
               have hR2 : R.length ≤ 2 := by
                obtain ⟨_, _, _, _, _, _, _, _, _, _, h⟩ := RQ7.out
                exact h
               clear hyo hyb hyv hgv
               go_wp2_with fail
               with_reducible refine hbl.mono ?_
               rintro e w8 ⟨⟨Bq, cq, rfl, hown⟩, _, hrk⟩
               have RQ8 := Lib.hid (RQ7.out.below hrk.bel)
               have OW8 := Lib.hid hown
               have B8 := Lib.hid (below_base B7.out B7.out.size hrk.bel)
               have hgb7 : gb < w7.heap.size ∧ mb < w7.heap.size := by omega
               have hwb : wk.heap.size ≤ w7.heap.size := by have := B7.out.size; omega
               clear hown hrk hbl cz7
               go_wp2_with fail
               go_loopg [84] R.length (fun g v84 W => ∃ j : Nat, v84 = .int .i64 (j : Nat) ∧ g + j = R.length ∧ Hid (Rq wk W gb mb sb qb c key zv (R.drop j)) ∧ Hid (W.ownsRow w7.heap.size 3 1 (.slice Bq R.length cq) R.length (natV R)) ∧ Hid (Below wk.heap.size wk W))
               case atStart => exact ⟨0, rfl, by omega, by rw [List.drop_zero]; exact RQ8, OW8, B8⟩
               case round =>
                clear RQ8 OW8 B8
                obtain ⟨j, rfl, hj, RQ9, OW9, B9⟩ := hrel
                by_cases hjl : j < R.length
                · have hjI : (j : Int) < (R.length : Int) := by omega
                  have i2 : IntKind.i64.wrap ((j : Int) + 1) = (j : Int) + 1 := IntWalk.i64_in _ (by omega)
                  obtain ⟨g9, rfl⟩ : ∃ g, Bq = some ⟨g, 0, none⟩ := by
                   rcases OW9.out.2 with ⟨_, h0⟩ | ⟨g, cap, cur, h0, _⟩
                   · omega
                   · injection h0 with h0; exact ⟨g, h0⟩
                  have cR := own_at OW9.out j (.int .i64 ((R[j] : Nat) : Int)) (by rw [natV, List.getElem?_map, List.getElem?_eq_getElem hjl]; rfl)
                  have lR := own_lt OW9.out g9 rfl
                  have hdr : R.drop j = R[j] :: R.drop (j + 1) := List.drop_eq_getElem_cons hjl
                  have hgv := rq_give wk wr gb mb sb qb c key zv R[j] (R.drop (j + 1)) (by rw [← hdr]; exact RQ9.out)
                  clear hdr
                  generalize R[j] = yj at *
                  go_wp2_with fail
                  with_reducible refine hgv.mono ?_
                  rintro e w9 ⟨rfl, hrq9, wk9⟩
                  have RQ10 := Lib.hid hrq9
                  have OW10 := Lib.hid (wk9.row OW9.out hwb (by omega) (by omega))
                  have B10 := Lib.hid (below_keep B9.out B9.out.size wk9.keep (by rintro i (rfl | rfl) <;> omega))
                  clear hrq9 wk9 hgv cR lR RQ9 OW9 B9
                  go_wp2_with fail
                  go_roundg (gk - 1)
                  case measure => omega
                  case rel => exact ⟨j + 1, by go_num, by omega, RQ10, OW10, B10⟩
                · have hjn : ¬ (j : Int) < (R.length : Int) := by omega
                  have RP : Hid (Rp wk wr gb mb sb qb c key (some zv)) := Lib.hid (by
                   have h1 := RQ9.out
                   rw [show R.drop j = [] from List.drop_eq_nil_of_le (by omega)] at h1
                   exact h1.done)
                  go_wp2_with fail
                  go_meet
                  exact ⟨RP, B9⟩
             · have RP : Hid (Rp wk w7 gb mb sb qb c key (some zv)) := Lib.hid (by
                rcases OR7.out with ⟨_, h2⟩ | ⟨h1, _⟩
                · have h3 := RQ7.out
                  rw [h2] at h3
                  exact h3.done
                · cases h1)
               go_wp2_with fail
               go_meet
               exact ⟨RP, B7⟩
            case rest =>
             obtain ⟨RPc, Bc⟩ := hcut
             have hdp := Hdm.out wc RPc.out
             clear RQ7 Z7 B7 OR7 Hst0 Hdm
             go_wp2_with fail
             with_reducible refine hdp.mono ?_
             rintro e w8 ⟨g8, c8, rfl, e0, e1, lg8, hrp, hb8⟩
             have RP8 := Lib.hid hrp
             have B8 := Lib.hid (below_base Bc.out Bc.out.size hb8)
             have E0 := Lib.hid e0
             have E1 := Lib.hid e1
             clear hrp hb8 hdp e0 e1
             go_wp2_with fail
             refine wp_region_held_drew (S := (Bz w8)) (by kernel_rfl) (below_dr (Below.refl _ _)) (fun hHeld => ?_)
             refine Ra.W 0 ?_ ?_ hHeld ?_
             rotate_left
             · intro wq hSw
               go_simp
               try with_reducible rfl
             try simp only [Act.put, List.getElem_toArray, List.getElem_cons_succ, List.getElem_cons_zero, List.setIfInBounds_toArray, List.set_cons_zero, List.set_cons_succ]
             refine Ra.W 1 ?_ ?_ hHeld ?_
             rotate_left
             · intro wq hSw
               go_simp
               try rw [if_neg (by omega)]
               try rw [if_pos (by omega)]
               try with_reducible rfl
             try simp only [Act.put, List.getElem_toArray, List.getElem_cons_succ, List.getElem_cons_zero, List.setIfInBounds_toArray, List.set_cons_zero, List.set_cons_succ]
             refine Ra.W 2 ?_ ?_ hHeld ?_
             rotate_left
             · intro wq hSw
               go_simp
               try with_reducible rfl
             try simp only [Act.put, List.getElem_toArray, List.getElem_cons_succ, List.getElem_cons_zero, List.setIfInBounds_toArray, List.set_cons_zero, List.set_cons_succ]
             refine Ra.W 3 ?_ ?_ hHeld ?_
             rotate_left
             · intro wq hSw
               go_simp
               try with_reducible rfl
             try simp only [Act.put, List.getElem_toArray, List.getElem_cons_succ, List.getElem_cons_zero, List.setIfInBounds_toArray, List.set_cons_zero, List.set_cons_succ]
             refine Ra.W 4 ?_ ?_ hHeld ?_
             rotate_left
             · intro wq hSw
               have hSc := (Below.cell hSw (p := ⟨g8, 0, none⟩) lg8).trans E0.out; have hSl := Nat.lt_of_lt_of_le lg8 (Below.size hSw); have hSd := (Below.cell hSw (p := ⟨g8, 1, none⟩) lg8).trans E1.out
               go_simp
               try rw [if_neg (by omega)]
               try rw [if_pos (by omega)]
               try with_reducible rfl
             try simp only [Act.put, List.getElem_toArray, List.getElem_cons_succ, List.getElem_cons_zero, List.setIfInBounds_toArray, List.set_cons_zero, List.set_cons_succ]
             refine Ra.W 5 ?_ ?_ hHeld ?_
             rotate_left
             · intro wq hSw
               go_simp
               try rw [if_neg (by omega)]
               try rw [if_pos (by omega)]
               try with_reducible rfl
             try simp only [Act.put, List.getElem_toArray, List.getElem_cons_succ, List.getElem_cons_zero, List.setIfInBounds_toArray, List.set_cons_zero, List.set_cons_succ]
             refine Ra.W 6 ?_ ?_ hHeld ?_
             rotate_left
             · intro wq hSw
               go_simp
               try with_reducible rfl
             try simp only [Act.put, List.getElem_toArray, List.getElem_cons_succ, List.getElem_cons_zero, List.setIfInBounds_toArray, List.set_cons_zero, List.set_cons_succ]
             refine Ra.W 7 ?_ ?_ hHeld ?_
             rotate_left
             · intro wq hSw
               go_simp
               try with_reducible rfl
             try simp only [Act.put, List.getElem_toArray, List.getElem_cons_succ, List.getElem_cons_zero, List.setIfInBounds_toArray, List.set_cons_zero, List.set_cons_succ]
             refine Ra.W 8 ?_ ?_ hHeld ?_
             rotate_left
             · intro wq hSw
               go_simp
               try with_reducible rfl
             try simp only [Act.put, List.getElem_toArray, List.getElem_cons_succ, List.getElem_cons_zero, List.setIfInBounds_toArray, List.set_cons_zero, List.set_cons_succ]
             refine Ra.W 9 ?_ ?_ hHeld ?_
             rotate_left
             · intro wq hSw
               have hSc := (Below.cell hSw (p := ⟨g8, 0, none⟩) lg8).trans E0.out; have hSl := Nat.lt_of_lt_of_le lg8 (Below.size hSw); have hSd := (Below.cell hSw (p := ⟨g8, 1, none⟩) lg8).trans E1.out
               go_simp
               try rw [if_neg (by omega)]
               try rw [if_pos (by omega)]
               try with_reducible rfl
             try simp only [Act.put, List.getElem_toArray, List.getElem_cons_succ, List.getElem_cons_zero, List.setIfInBounds_toArray, List.set_cons_zero, List.set_cons_succ]
             refine Ra.W 10 ?_ ?_ hHeld ?_
             rotate_left
             · intro wq hSw
               have hSc := (Below.cell hSw (p := ⟨g8, 0, none⟩) lg8).trans E0.out; have hSl := Nat.lt_of_lt_of_le lg8 (Below.size hSw); have hSd := (Below.cell hSw (p := ⟨g8, 1, none⟩) lg8).trans E1.out
               go_simp
               try with_reducible rfl
             try simp only [Act.put, List.getElem_toArray, List.getElem_cons_succ, List.getElem_cons_zero, List.setIfInBounds_toArray, List.set_cons_zero, List.set_cons_succ]
             refine Ra.W 11 ?_ ?_ hHeld ?_
             rotate_left
             · intro wq hSw
               go_simp
               try with_reducible rfl
             try simp only [Act.put, List.getElem_toArray, List.getElem_cons_succ, List.getElem_cons_zero, List.setIfInBounds_toArray, List.set_cons_zero, List.set_cons_succ]
             refine Ra.W 12 ?_ ?_ hHeld ?_
             rotate_left
             · intro wq hSw
               go_simp
               try with_reducible rfl
             try simp only [Act.put, List.getElem_toArray, List.getElem_cons_succ, List.getElem_cons_zero, List.setIfInBounds_toArray, List.set_cons_zero, List.set_cons_succ]
             refine wpAnyH_ready (rs := [13]) (by kernel_rfl) (by simp) ?_
             refine AllReadyH.cons rfl (fun K hK => ?_) AllReadyH.nil
             rw [if_pos (by kernel_rfl)]
             go_simp
             (with_reducible refine (Hzer.out _).mono ?_)
             rintro e w9 ⟨rfl, hb9⟩
             go_simp
             refine hK.out _ _ (below_tr hHeld hb9) (fun hHeld2 => ?_)
             clear hK K
             try clear hHeld
             have hHeld := hHeld2
             try clear hHeld2
             refine Ra.W 14 ?_ ?_ hHeld ?_
             rotate_left
             · intro wq hSw
               go_simp
               try with_reducible rfl
             try simp only [Act.put, List.getElem_toArray, List.getElem_cons_succ, List.getElem_cons_zero, List.setIfInBounds_toArray, List.set_cons_zero, List.set_cons_succ]
             refine Ra.W 15 ?_ ?_ hHeld ?_
             rotate_left
             · intro wq hSw
               go_simp
               try rw [if_neg (by omega)]
               try rw [if_pos (by omega)]
               try with_reducible rfl
             try simp only [Act.put, List.getElem_toArray, List.getElem_cons_succ, List.getElem_cons_zero, List.setIfInBounds_toArray, List.set_cons_zero, List.set_cons_succ]
             refine Ra.W 16 ?_ ?_ hHeld ?_
             rotate_left
             · intro wq hSw
               go_simp
               try with_reducible rfl
             try simp only [Act.put, List.getElem_toArray, List.getElem_cons_succ, List.getElem_cons_zero, List.setIfInBounds_toArray, List.set_cons_zero, List.set_cons_succ]
             refine Ra.W 17 ?_ ?_ hHeld ?_
             rotate_left
             · intro wq hSw
               go_simp
               try with_reducible rfl
             try simp only [Act.put, List.getElem_toArray, List.getElem_cons_succ, List.getElem_cons_zero, List.setIfInBounds_toArray, List.set_cons_zero, List.set_cons_succ]
             refine Ra.W 18 ?_ ?_ hHeld ?_
             rotate_left
             · intro wq hSw
               go_simp
               try with_reducible rfl
             try simp only [Act.put, List.getElem_toArray, List.getElem_cons_succ, List.getElem_cons_zero, List.setIfInBounds_toArray, List.set_cons_zero, List.set_cons_succ]
             refine wpAnyH_ready (rs := [19]) (by kernel_rfl) (by simp) ?_
             refine AllReadyH.cons rfl (fun K hK => ?_) AllReadyH.nil
             rw [if_pos (by kernel_rfl)]
             go_simp
             (with_reducible refine (rp_check wk _ gb mb sb qb c key zv (RP8.out.below hHeld)).mono ?_)
             rintro e w10 ⟨rfl, hrp, hb10⟩
             go_simp
             refine hK.out _ _ (below_tr hHeld hb10) (fun hHeld2 => ?_)
             clear hK K
             try clear hHeld
             have hHeld := hHeld2
             try clear hHeld2
             refine Ra.W 20 ?_ ?_ hHeld ?_
             rotate_left
             · intro wq hSw
               go_simp
               try rw [if_neg (by omega)]
               try rw [if_pos (by omega)]
               try with_reducible rfl
             try simp only [Act.put, List.getElem_toArray, List.getElem_cons_succ, List.getElem_cons_zero, List.setIfInBounds_toArray, List.set_cons_zero, List.set_cons_succ]
             refine Ra.W 21 ?_ ?_ hHeld ?_
             rotate_left
             · intro wq hSw
               go_simp
               try with_reducible rfl
             try simp only [Act.put, List.getElem_toArray, List.getElem_cons_succ, List.getElem_cons_zero, List.setIfInBounds_toArray, List.set_cons_zero, List.set_cons_succ]
             refine wpAnyH_done (by kernel_rfl) ?_ _
             have B10 := Lib.hid (below_base B8.out B8.out.size hHeld)
             have RP10 := Lib.hid (RP8.out.below hHeld)
             clear hHeld
             go_wp2_with fail
             go_roundg (gk - 1)
             case measure => omega
             case rel => exact ⟨k + 1, some zv, by go_num, by omega, RP10, B10⟩
      · have hkn : ¬ (k : Int) < (n : Int) := by omega
        go_wp2_with fail
        go_ret
        exact ⟨rfl, B3.out⟩
 · rw [decide_eq_false hko] at hkey
   obtain ⟨U, hU⟩ : ∃ U, U = str key := ⟨_, rfl⟩
   rw [← hU] at hkey ⊢
   clear hko hU
   go_enter Tryz.func5, Tryz.ntmps5
   go_wp2_with fail
   with_reducible refine (hkey _).mono ?_
   rintro e w1 ⟨rfl, rfl⟩
   go_wp2_with fail
   with_reducible refine (Hal.out _ Ht.out).mono ?_
   rintro e w2 ⟨rfl, hb1⟩
   have B1 := Lib.hid hb1
   clear hb1
   go_wp2_with fail
   go_ret
   exact ⟨rfl, B1.out⟩
theorem repl_law (K : ByteArray) (A : Option Addr) (n cp : Nat) (xs : List Int) (w : World) (ht : Tab w) (hk64 : K.size ≤ 140737488351232) (hI : n ≤ 1000 → Ints w A n xs) :
 Calls Tryz.prog 5 #[.string K, .slice A n cp] w fun e w' => e = .returned (.bool true) ∧ Below w.heap.size w w' := by
 have h := repl_any K.data.toList A n cp xs w ht (by have h1 := str_size K.data.toList; rw [← str_of] at h1; omega) hI
 rw [← str_of] at h
 exact h
end Go.Proofs.YtijhamllnnilbaaGreatDoor.Ha
