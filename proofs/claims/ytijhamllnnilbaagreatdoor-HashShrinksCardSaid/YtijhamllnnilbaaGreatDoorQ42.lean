/- Lemmas of the claim, in their order:
- HashOverflows: the walk.
- The contract of the book's SameEntries, at lists that are the same.
- HashOrder: the walk.
- HashStays: the walk.
- The contract of the table's halve.
- The contract of the table's shrink.
- Maps from texts: a set of them, texts by them; a range over the latter.
-/
import Derived.Test.YtijhamllnnilbaaGreatDoorQ40
import Derived.Test.YtijhamllnnilbaaGreatDoorQ39
import Derived.Test.YtijhamllnnilbaaGreatDoorQ28
import Derived.KernelRfl
import Derived.Deep.QuietTactic
import Derived.BigQuiet
import Derived.Outline
import Derived.Test.YtijhamllnnilbaaGreatDoorQ41
import Derived.Deep.LoopGhost
set_option linter.unusedVariables false
set_option linter.unusedSimpArgs false
namespace Go.Proofs.YtijhamllnnilbaaGreatDoor.Ha
open Go.RowKit Go.Proofs.YtijhamllnnilbaaGreatDoor.Mem Go.Proofs.YtijhamllnnilbaaGreatDoor.Pg Go.Proofs.YtijhamllnnilbaaGreatDoor.Kp Go.Proofs.YtijhamllnnilbaaGreatDoor.Sp Go.Proofs.YtijhamllnnilbaaGreatDoor.Gr
set_option linter.unusedSimpArgs false
set_option linter.unusedVariables false
def Txts (w : World) (A : Option Addr) (n : Nat) (T : Nat → List UInt8) : Prop :=
 (∀ j, j < n → (str (T j)).size ≤ maxLen) ∧ (0 < n → ∃ b off, A = some ⟨b, off, none⟩ ∧ b < w.heap.size ∧ ∀ j, j < n → w.cell? ⟨b, off + j, none⟩ = some (.string (str (T j))))
theorem free_st {w0 w : World} {gb mb sb qb c n D : Nat} {pg : Nat → Pag} {t : Tri} {ml : List UInt8} {tk0 : Int} (h : St w0 w gb mb sb qb c n pg D t ml [] tk0) :
 ∃ f : Nat, f + 2 + (numsF t.leaves).length = n ∧ Calls Tryz.prog 29 #[.pointer (some ⟨gb, 0, none⟩)] w fun e w' => e = .returned (.int .i64 (f : Nat)) ∧ Below w.heap.size w w' := by
 obtain ⟨md, mx, hp⟩ := h.hs.map
 have h1 := free_len h.hs
 simp only [List.length_nil, Nat.add_zero] at h1
 exact ⟨_, h1, h.gv.free hp h.hs.is⟩
theorem free_at {w0 w : World} {gb mb sb qb c n D f : Nat} {pg : Nat → Pag} {t : Tri} {ml : List UInt8} {tk0 : Int} (h : St w0 w gb mb sb qb c n pg D t ml [] tk0) (hf : f + 2 + (numsF t.leaves).length = n) :
 Calls Tryz.prog 29 #[.pointer (some ⟨gb, 0, none⟩)] w fun e w' => e = .returned (.int .i64 (f : Nat)) ∧ Below w.heap.size w w' ∧ St w0 w' gb mb sb qb c n pg D t ml [] tk0 := by
 obtain ⟨f', h1, h2⟩ := free_st h
 obtain rfl : f' = f := by omega
 exact h2.mono fun e w' ⟨he, hb⟩ => ⟨he, hb, h.gv.below hb, h.hs⟩
end Go.Proofs.YtijhamllnnilbaaGreatDoor.Ha
namespace Go.Proofs.YtijhamllnnilbaaGreatDoor.Ha
open Go.RowKit Go.Proofs.YtijhamllnnilbaaGreatDoor.Mem Go.Proofs.YtijhamllnnilbaaGreatDoor.Pg Go.Proofs.YtijhamllnnilbaaGreatDoor.Kp Go.Proofs.YtijhamllnnilbaaGreatDoor.Sp Go.Proofs.YtijhamllnnilbaaGreatDoor.Gr
set_option linter.unusedSimpArgs false
set_option linter.unusedVariables false
theorem entC_at (es : List Ent) (k : Nat) (hk : k < es.length) (r : Nat) (hr : r < 2) : (es.flatMap entC)[k * 2 + r]? = (entC es[k])[r]? := by
 induction es generalizing k with
 | nil => simp at hk
 | cons e es ih =>
  cases k with
  | zero =>
   rw [List.flatMap_cons, List.getElem?_append_left (by show 0 * 2 + r < 2; omega)]
   simp
  | succ k =>
   rw [List.flatMap_cons, List.getElem?_append_right (by show 2 ≤ (k + 1) * 2 + r; omega)]
   have e1 : (k + 1) * 2 + r - (entC e).length = k * 2 + r := by show (k + 1) * 2 + r - 2 = k * 2 + r; omega
   rw [e1, ih k (by simpa using hk)]
   rfl
def Ents (w : World) (A : Option Addr) (es : List Ent) : Prop :=
 0 < es.length → ∃ b off, A = some ⟨b, off, none⟩ ∧ b < w.heap.size ∧ ∀ j, j < es.length → w.cell? ⟨b, off + j * 2, none⟩ = some (.string (str (es.getD j ([], [])).1)) ∧ w.cell? ⟨b, off + j * 2 + 1, none⟩ = some (.string (str (es.getD j ([], [])).2))
theorem ents_of_own {w : World} {base cap : Nat} {A : Option Addr} {es : List Ent} (h : w.ownsRow base 57 2 (.slice A es.length cap) es.length (es.flatMap entC)) : Ents w A es := fun h0 => by
 obtain ⟨g, cap', h4, _, h5⟩ := h.form (by
  have : (es.flatMap entC)[0 * 2 + 0]? = _ := entC_at es 0 h0 0 (by omega)
  omega)
 obtain rfl : A = some ⟨g, 0, none⟩ := by injection h4
 refine ⟨g, 0, rfl, h5, fun j hj => ?_⟩
 have e1 : es.getD j ([], []) = es[j] := by rw [List.getD_eq_getElem?_getD, List.getElem?_eq_getElem hj]; rfl
 rw [e1, Nat.zero_add]
 exact ⟨own_at h _ _ (entC_at es j hj 0 (by omega)), own_at h _ _ (entC_at es j hj 1 (by omega))⟩
end Go.Proofs.YtijhamllnnilbaaGreatDoor.Ha
namespace Go.Proofs.YtijhamllnnilbaaGreatDoor.Ha
open Go.RowKit Go.Proofs.YtijhamllnnilbaaGreatDoor.Mem Go.Proofs.YtijhamllnnilbaaGreatDoor.Pg Go.Proofs.YtijhamllnnilbaaGreatDoor.Kp Go.Proofs.YtijhamllnnilbaaGreatDoor.Sp Go.Proofs.YtijhamllnnilbaaGreatDoor.Gr
set_option linter.unusedSimpArgs false
set_option linter.unusedVariables false
theorem kv_dump (w0 W : World) (gb mb sb qb c D : Nat) (pg : Nat → Pag) (t : Tri) (ml : List UInt8) (f : List UInt8 → List UInt8) (J : List (List UInt8)) (h : St w0 W gb mb sb qb c 64 pg D t ml [] (-1)) (ho : Kv t f J) :
 Calls Tryz.prog 19 #[.pointer (some ⟨gb, 0, none⟩)] W fun e w' => ∃ A cap es, e = .returned (.tuple #[.slice A es.length cap, .int .i64 0]) ∧ es.length ≤ 1000000 ∧ Ents w' A es ∧
  es.Perm ((celsF t (fstT t (2 ^ D))).map (entOf Cel.val)) ∧ SortedK Prod.fst es ∧ St w0 w' gb mb sb qb c 64 pg D t ml [] (-1) ∧ Below W.heap.size W w' := by
 refine (dump_ok w0 W gb mb sb qb c 64 D pg _ t h.gv h.hs.tb Cel.val (fun _ => []) (ho.inl h.hs.tb).at').mono ?_
 rintro e w' ⟨A, cap, es, rfl, hown, hp, hs, hg, hb⟩
 refine ⟨A, cap, es, rfl, ?_, ents_of_own hown, hp, hs, ⟨hg, h.hs⟩, hb⟩
 have h1 := hp.length_eq
 have h2 := celsF_all h.hs.tb (by omega)
 rw [List.length_map] at h1
 omega
theorem kv_check (w0 W : World) (gb mb sb qb c D : Nat) (pg : Nat → Pag) (t : Tri) (ml : List UInt8) (f : List UInt8 → List UInt8) (J : List (List UInt8)) (h : St w0 W gb mb sb qb c 64 pg D t ml [] (-1)) (ho : Kv t f J) :
 Calls Tryz.prog 21 #[.pointer (some ⟨gb, 0, none⟩), .int .i64 64, .slice none 0 0] W fun e w' => e = .returned (.int .i64 0) ∧ St w0 w' gb mb sb qb c 64 pg D t ml [] (-1) ∧ Below W.heap.size W w' :=
 (check_in w0 W gb mb sb qb c 64 D pg _ t ml h.gv h.hs (ho.inl h.hs.tb)).mono fun e w' ⟨h1, h2, h3⟩ => ⟨h1, ⟨h2, h.hs⟩, h3⟩
end Go.Proofs.YtijhamllnnilbaaGreatDoor.Ha
namespace Go.Proofs.YtijhamllnnilbaaGreatDoor.Ha
open Go.RowKit Go.Proofs.YtijhamllnnilbaaGreatDoor.Mem Go.Proofs.YtijhamllnnilbaaGreatDoor.Pg Go.Proofs.YtijhamllnnilbaaGreatDoor.Kp Go.Proofs.YtijhamllnnilbaaGreatDoor.Sp Go.Proofs.YtijhamllnnilbaaGreatDoor.Gr
set_option linter.unusedSimpArgs false
set_option linter.unusedVariables false
theorem kv_dump0 (w0 W : World) (gb mb sb qb c D : Nat) (pg : Nat → Pag) (t : Tri) (ml : List UInt8) (f : List UInt8 → List UInt8) (h : St w0 W gb mb sb qb c 64 pg D t ml [] (-1)) (ho : Kv t f []) :
 Calls Tryz.prog 19 #[.pointer (some ⟨gb, 0, none⟩)] W fun e w' => ∃ A cap, e = .returned (.tuple #[.slice A 0 cap, .int .i64 0]) ∧ St w0 w' gb mb sb qb c 64 pg D t ml [] (-1) ∧ Below W.heap.size W w' := by
 refine (kv_dump w0 W gb mb sb qb c D pg t ml f [] h ho).mono ?_
 rintro e w' ⟨A, cap, es, rfl, _, _, hp, _, hs, hb⟩
 have h1 := hp.trans ((celsF_perm h.hs.tb).map (entOf Cel.val))
 have h2 : t.leaves.flatMap Lf.cells = [] := ho.none h.hs.tb
 have h3 : es = [] := by
  have h4 := h1.length_eq
  simp only [List.length_map] at h4
  have h5 : (cellsT t).length = 0 := by rw [ho.none h.hs.tb]; rfl
  exact List.length_eq_zero_iff.1 (h4.trans h5)
 subst h3
 exact ⟨A, cap, rfl, hs, hb⟩
theorem free_ex {w0 w : World} {gb mb sb qb c n D : Nat} {pg : Nat → Pag} {t : Tri} {ml : List UInt8} {tk0 : Int} (h : St w0 w gb mb sb qb c n pg D t ml [] tk0) : ∃ f, f + 2 + (numsF t.leaves).length = n := by
 obtain ⟨f, h1, _⟩ := free_st h
 exact ⟨f, h1⟩
end Go.Proofs.YtijhamllnnilbaaGreatDoor.Ha
namespace Go.Proofs.YtijhamllnnilbaaGreatDoor.Ha
open Go.RowKit Go.Proofs.YtijhamllnnilbaaGreatDoor.Mem Go.Proofs.YtijhamllnnilbaaGreatDoor.Pg Go.Proofs.YtijhamllnnilbaaGreatDoor.Kp Go.Proofs.YtijhamllnnilbaaGreatDoor.Sp Go.Proofs.YtijhamllnnilbaaGreatDoor.Gr
set_option linter.unusedSimpArgs false
set_option linter.unusedVariables false
structure Hv (w0 W : World) (gb mb sb qb c n tb : Nat) (pg0 : Nat → Pag) (t : Tri) (ml : List UInt8) (X : List Nat) (tk0 : Int) (D : Nat) (w : World) : Prop where
 ex : ∃ pg, St w0 w gb mb sb qb c n pg D t ml X tk0 ∧ SameX X pg0 pg
 tbl : w.heap[tb]? = some (tbO gb D (Dr.bdy (entsF D t)))
 frm : Ck w0.heap.size gb mb tb W w
theorem entsF_good {n D E : Nat} {pg : Nat → Pag} {t : Tri} (T : Tb n pg D t) (h64 : n ≤ 64) (h5 : E ≤ 5) : Dr.Good E E (entsF E t) := ⟨rfl, h5, entsF_len E t, fun y hy => by
 obtain ⟨i, _, rfl⟩ := List.mem_map.1 hy
 have := T.at_rng i
 exact ⟨by omega, by omega⟩⟩
set_option maxRecDepth 100000 in
set_option maxHeartbeats 8000000 in
theorem halve_ok (w0 W : World) (gb mb sb qb c n D tb : Nat) (pg : Nat → Pag) (t : Tri) (ml : List UInt8) (X : List Nat) (tk0 : Int) (hS : St w0 W gb mb sb qb c n pg D t ml X tk0) (htb : W.heap[tb]? = some (tbO gb D (Dr.bdy (entsF D t)))) (hge : w0.heap.size ≤ tb ∧ gb < tb ∧ mb < tb) :
 Calls Tryz.prog 162 #[.pointer (some ⟨tb, 0, none⟩)] W fun e w' => e = .returned (.int .i64 0) ∧ Hv w0 W gb mb sb qb c n tb pg t ml X tk0 t.height w' := by
 have hhi := hS.hs.tb.hi
 have hD5 := hS.hs.tb.d5
 have R0 : Hid (Hv w0 W gb mb sb qb c n tb pg t ml X tk0 D W) := Lib.hid ⟨⟨pg, hS, .refl _ _⟩, htb, .of_below (Below.refl _ _)⟩
 have h64 := hS.gv.n64
 have hn0 : 0 < n := by have := hS.hs.tb.at_rng 0; omega
 clear hS htb
 go_enter Tryz.func162, Tryz.ntmps162
 go_wp2_with fail
 go_loopg [] (D - t.height) (fun g wr => ∃ E : Nat, g + t.height = E ∧ E ≤ 5 ∧ Hid (Hv w0 W gb mb sb qb c n tb pg t ml X tk0 E wr))
 case atStart => exact ⟨D, by omega, hD5, R0⟩
 case round =>
  clear R0
  obtain ⟨E, hgE, hE5, R1⟩ := hrel
  obtain ⟨pge, hst, hsx⟩ := R1.out.ex
  have HT := Lib.hid R1.out.tbl
  have T := hst.hs.tb
  have lt := lt_of_block HT.out
  rcases Nat.lt_or_ge t.height E with hlt | hle
  · obtain ⟨E', rfl⟩ : ∃ E', E = E' + 1 := ⟨E - 1, by omega⟩
    have hht : t.height ≤ E' := by omega
    obtain ⟨DI, hDI⟩ : ∃ x : Int, x = ((E' + 1 : Nat) : Int) := ⟨_, rfl⟩
    have hH := hst.hs.half hht
    have hhalve := fun V => Dr.good_halve (entsF_good T h64 (show E' ≤ 5 by omega)) DI (by omega) (by omega) V
    rw [← entsF_twice E' t hht] at hhalve
    have hT2 := HT.out
    unfold tbO at hT2
    rw [← hDI] at hT2
    obtain ⟨EB, hEB⟩ : ∃ S, S = Dr.bdy (entsF (E' + 1) t) := ⟨_, rfl⟩
    obtain ⟨ED, hED⟩ : ∃ S, S = Dr.bdy (entsF E' t) := ⟨_, rfl⟩
    rw [← hEB] at hT2
    simp only [← hEB, ← hED] at hhalve
    obtain ⟨PD, hPD⟩ : ∃ p : Pag, p = dirF E' t := ⟨_, rfl⟩
    have vD : PD.v = .agg #[.int .i64 1, .int .i64 (E' : Nat), .int .i64 0, .string ED] := by rw [hPD, hED]; rfl
    have okD : PD.ok := by rw [hPD]; exact Pag.ok_mk (by omega) (by omega) (by omega) (entsF_good T h64 (show E' ≤ 5 by omega)).isDir.len
    have hp0 : Hid (∀ V, GV w0 V gb mb sb qb c n pge (tk0 + ((numsF t.leaves).length : Int)) → Calls Tryz.prog 75 #[.pointer (some ⟨gb, 0, none⟩), .int .i64 0, .agg #[.int .i64 1, .int .i64 (E' : Nat), .int .i64 0, .string ED]] V fun e w' => e = .returned (.int .i64 0) ∧ GV w0 w' gb mb sb qb c n (updN pge 0 PD) (tk0 + ((numsF t.leaves).length : Int)) ∧ Wk w0.heap.size gb mb V w') := Lib.hid (fun V hV => by
     have h := hV.putW 0 hn0 PD okD
     rw [vD] at h
     exact h)
    rw [← hPD] at hH
    have HH := Lib.hid hH
    have HTT := Lib.hid hT2
    have G1 := Lib.hid hst.gv
    have SX := Lib.hid hsx
    have FR := Lib.hid R1.out.frm
    have HEE := Lib.hid (And.intro hEB hED)
    have ct := blk_cell HTT.out
    have hv := hhalve wr
    clear hDI hst hsx R1 T hH hT2 hEB hED hPD vD okD hhalve HT
    go_wp2_with fail
    with_reducible refine hv.mono ?_
    rintro e wk ⟨rfl, hbk⟩
    have y4 := heap_alloc_new wk (pagO 1 E' 0 ED)
    have t4 := hal (o := pagO 1 E' 0 ED) (blk_keep HTT.out hbk)
    have cy4 := blk_cell y4
    have ly4 := lt_of_block y4
    have ct4 := blk_cell t4
    have ft4 := blk_free t4
    have lt4 := lt_of_block t4
    have hne4 : wk.heap.size ≠ tb := by
     have h1 := lt_of_block HTT.out
     have h2 := hbk.size
     omega
    have KK : Hid (Keep (fun q => q = tb) (wk.alloc (pagO 1 E' 0 ED)) (set4o (wk.alloc (pagO 1 E' 0 ED)) tb 1 (.int .i64 1) (.int .i64 E') (.int .i64 0) (.string ED))) := Lib.hid (keep_set4o (S := fun q => q = tb) (Keep.refl _ _) (.inl rfl) _ _ _ _)
    have TT := Lib.hid (set4o_same (o := 1) t4 (.int .i64 1) (.int .i64 E') (.int .i64 0) (.string ED))
    have YY := Lib.hid (KK.out.blk y4 hne4)
    have GS := Lib.hid (((G1.out.rk hbk).rk (below_al (Below.refl _ wk) (pagO 1 E' 0 ED))).owns KK.out (fun q hq => by omega))
    have KS : Hid (Ck w0.heap.size gb mb tb W (set4o (wk.alloc (pagO 1 E' 0 ED)) tb 1 (.int .i64 1) (.int .i64 E') (.int .i64 0) (.string ED))) := Lib.hid ((FR.out.trans (.of_below (below_al hbk (pagO 1 E' 0 ED)))).trans (.of_keep KK.out (fun q hq => by omega)))
    clear ct hv y4 t4 hbk
    go_wp2_with fail
    clear cy4 ly4 ct4 ft4 lt4
    refine Ra.wp_region_A (S := (Bz (set4o (wk.alloc (pagO 1 E' 0 ED)) tb 1 (.int .i64 1) (.int .i64 E') (.int .i64 0) (.string ED)))) [3, 4] (by kernel_rfl) (below_dr (Below.refl _ _)) (fun hHeld => ?_)
    refine Ra.WT 0 ?_ ?_ ?_
    rotate_left
    · intro wq hSw
      go_simp
      try with_reducible rfl
    try simp only [Act.put, List.getElem_toArray, List.getElem_cons_succ, List.getElem_cons_zero, List.setIfInBounds_toArray, List.set_cons_zero, List.set_cons_succ]
    refine Ra.WT 1 ?_ ?_ ?_
    rotate_left
    · intro wq hSw
      go_simp
      try with_reducible rfl
    try simp only [Act.put, List.getElem_toArray, List.getElem_cons_succ, List.getElem_cons_zero, List.setIfInBounds_toArray, List.set_cons_zero, List.set_cons_succ]
    refine Ra.WT 2 ?_ ?_ ?_
    rotate_left
    · intro wq hSw
      go_simp
      try with_reducible rfl
    try simp only [Act.put, List.getElem_toArray, List.getElem_cons_succ, List.getElem_cons_zero, List.setIfInBounds_toArray, List.set_cons_zero, List.set_cons_succ]
    refine Ra.WA 3 ?_ ?_ hHeld ?_
    rotate_left
    · intro wq hSw
      have hSc := blk_cell (blk_keep TT.out hSw); have hSl := lt_of_block (blk_keep TT.out hSw); have hSd := blk_cell (blk_keep YY.out hSw); have hSe := lt_of_block (blk_keep YY.out hSw)
      go_simp
      try with_reducible rfl
    try simp only [Act.put, List.getElem_toArray, List.getElem_cons_succ, List.getElem_cons_zero, List.setIfInBounds_toArray, List.set_cons_zero, List.set_cons_succ]
    refine Ra.WA 4 ?_ ?_ hHeld ?_
    rotate_left
    · intro wq hSw
      have hSc := blk_cell (blk_keep TT.out hSw); have hSl := lt_of_block (blk_keep TT.out hSw); have hSd := blk_cell (blk_keep YY.out hSw); have hSe := lt_of_block (blk_keep YY.out hSw)
      go_simp
      try with_reducible rfl
    try simp only [Act.put, List.getElem_toArray, List.getElem_cons_succ, List.getElem_cons_zero, List.setIfInBounds_toArray, List.set_cons_zero, List.set_cons_succ]
    refine Ra.wpA_ready (rs := [5]) (by kernel_rfl) (by simp) ?_
    refine Ra.AllReadyA.late rfl rfl (fun K hK => ?_) Ra.AllReadyA.nil
    rw [if_pos (by kernel_rfl)]
    go_simp
    (with_reducible refine (hp0.out _ (GS.out.rk (below_dr (Below.refl _ _)))).mono ?_)
    rintro e wl ⟨rfl, gl, kl⟩
    have Gl := Lib.hid gl
    have Kl := Lib.hid ((Wk.of_below (B := w0.heap.size) (gb := gb) (mb := mb) (below_dr (Below.refl _ (set4o (wk.alloc (pagO 1 E' 0 ED)) tb 1 (.int .i64 1) (.int .i64 E') (.int .i64 0) (.string ED))))).trans kl)
    clear gl kl
    go_simp
    refine hK.out _ _ (trivial) (fun hHeld2 => ?_)
    clear hK K
    try clear hHeld
    have hHeld := hHeld2
    try clear hHeld2
    refine Ra.WT 6 ?_ ?_ ?_
    rotate_left
    · intro wq hSw
      go_simp
      try with_reducible rfl
    try simp only [Act.put, List.getElem_toArray, List.getElem_cons_succ, List.getElem_cons_zero, List.setIfInBounds_toArray, List.set_cons_zero, List.set_cons_succ]
    refine Ra.wpA_done (by kernel_rfl) ?_ _
    clear hHeld
    have RN : Hid (Hv w0 W gb mb sb qb c n tb pg t ml X tk0 E' wl) := Lib.hid ⟨⟨_, ⟨Gl.out, HH.out.1⟩, SX.out.trans HH.out.2⟩, by
     have h := Kl.out.blk TT.out hge.1 (by omega) (by omega)
     rw [HEE.out.2] at h
     exact h, KS.out.trans (.of_wk Kl.out)⟩
    go_wp2_with fail
    go_roundg (gk - 1)
    case measure => omega
    case rel => exact ⟨E', by omega, by omega, RN⟩
  · obtain rfl : E = t.height := by omega
    have hno := ents_odd T rfl
    have hhalve := Dr.good_halve_no (entsF_good T h64 hE5) hno wr
    obtain ⟨EB, hEB⟩ : ∃ S, S = Dr.bdy (entsF t.height t) := ⟨_, rfl⟩
    rw [← hEB] at hhalve
    have ct := blk_cell HT.out
    rw [← hEB] at ct
    clear hno T hst hsx hEB
    go_wp2_with fail
    with_reducible refine hhalve.mono ?_
    rintro e wk ⟨rfl, hbk⟩
    have RN : Hid (Hv w0 W gb mb sb qb c n tb pg t ml X tk0 t.height (wk.alloc (pagO 0 0 0 ⟨#[]⟩))) := Lib.hid (by
     obtain ⟨pge, h1, h2⟩ := R1.out.ex
     have hb2 := below_al hbk (pagO 0 0 0 ⟨#[]⟩)
     exact ⟨⟨pge, ⟨h1.gv.rk hb2, h1.hs⟩, h2⟩, blk_keep R1.out.tbl hb2, R1.out.frm.trans (.of_below hb2)⟩)
    clear hbk hhalve ct R1 HT
    go_wp2_with fail
    go_ret
    exact ⟨rfl, RN.out⟩
end Go.Proofs.YtijhamllnnilbaaGreatDoor.Ha
namespace Go.Proofs.YtijhamllnnilbaaGreatDoor.Ha
open Go.RowKit Go.Proofs.YtijhamllnnilbaaGreatDoor.Mem Go.Proofs.YtijhamllnnilbaaGreatDoor.Pg Go.Proofs.YtijhamllnnilbaaGreatDoor.Kp Go.Proofs.YtijhamllnnilbaaGreatDoor.Sp Go.Proofs.YtijhamllnnilbaaGreatDoor.Gr
set_option linter.unusedSimpArgs false
set_option linter.unusedVariables false
structure Sh (w0 W : World) (gb mb sb qb c n D tb : Nat) (pg0 : Nat → Pag) (t : Tri) (X : List Nat) (tk0 : Int) (h : Nat) (t1 : Tri) (w : World) : Prop where
 ex : ∃ pg ml, St w0 w gb mb sb qb c n pg D t1 ml X tk0 ∧ SameX X pg0 pg
 mrg : Mergd h t t1
 look : ∀ k, lookT t1 k = lookT t k
 tbl : w.heap[tb]? = some (tbO gb D (Dr.bdy (entsF D t1)))
 frm : Ck w0.heap.size gb mb tb W w
def ShrPost (w0 w' : World) (gb mb sb qb c n : Nat) (pg : Nat → Pag) (t : Tri) (X : List Nat) (tk0 : Int) (h : Nat) : Prop :=
 ∃ pg' t' ml', St w0 w' gb mb sb qb c n pg' t'.height t' ml' X tk0 ∧ Mergd h t t' ∧ Stop h t' ∧ (∀ k, lookT t' k = lookT t k) ∧ SameX X pg pg'
set_option maxRecDepth 100000 in
set_option maxHeartbeats 8000000 in
theorem shrink_ok (w0 W : World) (gb mb sb qb c n D tb : Nat) (pg : Nat → Pag) (t : Tri) (ml : List UInt8) (X : List Nat) (tk0 : Int) (key : List UInt8) (hS : St w0 W gb mb sb qb c n pg D t ml X tk0) (htb : W.heap[tb]? = some (tbO gb D (Dr.bdy (entsF D t)))) (hge : w0.heap.size ≤ tb ∧ gb < tb ∧ mb < tb) (hkl : key.length ≤ 1000) (hk : -900000 ≤ tk0 ∧ tk0 ≤ 900000) :
 Calls Tryz.prog 81 #[.pointer (some ⟨tb, 0, none⟩), .string (str key)] W fun e w' => e = .returned (.int .i64 0) ∧ ShrPost w0 w' gb mb sb qb c n pg t X tk0 (sumF key) ∧ Ck w0.heap.size gb mb tb W w' := by
 have R0 : Hid (Sh w0 W gb mb sb qb c n D tb pg t X tk0 (sumF key) t W) := Lib.hid ⟨⟨pg, ml, hS, .refl _ _⟩, .refl _, fun _ => rfl, htb, .of_below (Below.refl _ _)⟩
 have hmerge := fun V pg1 t1 ml1 (hV : St w0 V gb mb sb qb c n pg1 D t1 ml1 X tk0) (ht : V.heap[tb]? = some (tbO gb D (Dr.bdy (entsF D t1)))) => merge_ok w0 V gb mb sb qb c n D tb pg1 t1 ml1 X tk0 key hV ht hge hkl hk
 have hhalve := fun V pg1 t1 ml1 (hV : St w0 V gb mb sb qb c n pg1 D t1 ml1 X tk0) (ht : V.heap[tb]? = some (tbO gb D (Dr.bdy (entsF D t1)))) => halve_ok w0 V gb mb sb qb c n D tb pg1 t1 ml1 X tk0 hV ht hge
 obtain ⟨U, hU⟩ : ∃ U, U = str key := ⟨_, rfl⟩
 rw [← hU] at hmerge ⊢
 generalize sumF key = h at *
 have HM := Lib.hid hmerge
 have HH := Lib.hid hhalve
 clear hmerge hhalve hU hS htb
 go_enter Tryz.func81, Tryz.ntmps81
 go_wp2_with fail
 go_loopg [] (t.dep h) (fun g wr => ∃ t1 : Tri, g = t1.dep h ∧ Hid (Sh w0 W gb mb sb qb c n D tb pg t X tk0 h t1 wr))
 case atStart => exact ⟨t, rfl, R0⟩
 case round =>
  clear R0
  obtain ⟨t1, hg, R1⟩ := hrel
  obtain ⟨pg1, ml1, hst, hsx⟩ := R1.out.ex
  have hm := HM.out wr pg1 t1 ml1 hst R1.out.tbl
  have SX := Lib.hid hsx
  have HG := Lib.hid hg
  clear hst hsx hg
  go_wp2_with fail
  with_reducible refine hm.mono ?_
  rintro e w2 ⟨hpost, hck⟩
  rcases hpost with ⟨rfl, hstop, hst, ht⟩ | ⟨rfl, d, a, b, m, pg', ml', hd, hsub, hpm, hst, hlk, hsx2, ht⟩
  · have hh := HH.out w2 pg1 t1 ml1 hst ht
    have HS := Lib.hid hstop
    have K2 := Lib.hid (R1.out.frm.trans hck)
    clear hst ht hstop hck hm
    go_wp2_with fail
    with_reducible refine hh.mono ?_
    rintro e w3 ⟨rfl, hv⟩
    have HP : Hid (ShrPost w0 w3 gb mb sb qb c n pg t X tk0 h ∧ Ck w0.heap.size gb mb tb W w3) := Lib.hid (by
     obtain ⟨pg3, h1, h2⟩ := hv.ex
     exact ⟨⟨pg3, t1, ml1, h1, R1.out.mrg, HS.out, R1.out.look, SX.out.trans h2⟩, K2.out.trans hv.frm⟩)
    clear hv hh
    go_wp2_with fail
    go_ret
    exact ⟨rfl, HP.out⟩
  · have hdn : (t1.upd h d (.leaf ⟨a.n, m, []⟩)).dep h = d := by
     rw [Tri.dep_upd _ _ t1 h h (by omega), if_pos rfl]; rfl
    have RN : Hid (Sh w0 W gb mb sb qb c n D tb pg t X tk0 h (t1.upd h d (.leaf ⟨a.n, m, []⟩)) w2) := Lib.hid ⟨⟨pg', ml', hst, SX.out.trans hsx2⟩, R1.out.mrg.last d a b m hd hsub hpm, fun k => (hlk k).trans (R1.out.look k), ht, R1.out.frm.trans hck⟩
    have HD := Lib.hid (And.intro hdn hd)
    clear hd hsub hpm hst hlk hsx2 ht hck hm hdn
    go_wp2_with fail
    go_roundg d
    case measure => have h1 := HD.out.2; have h2 := HG.out; omega
    case rel => exact ⟨_, HD.out.1.symm, RN⟩
end Go.Proofs.YtijhamllnnilbaaGreatDoor.Ha
namespace Go.Proofs.YtijhamllnnilbaaGreatDoor.Ha
open Go.RowKit Go.Proofs.YtijhamllnnilbaaGreatDoor.Mem Go.Proofs.YtijhamllnnilbaaGreatDoor.Pg Go.Proofs.YtijhamllnnilbaaGreatDoor.Kp Go.Proofs.YtijhamllnnilbaaGreatDoor.Sp Go.Proofs.YtijhamllnnilbaaGreatDoor.Gr
set_option linter.unusedVariables false
set_option linter.unusedSimpArgs false
abbrev tl (k : List UInt8) : Lit := .string k
set_option maxRecDepth 10000
theorem tl_ne {i j : List UInt8} (h : i ≠ j) : tl i ≠ tl j := fun e => h (by simpa only [tl, Lit.string.injEq] using e)
theorem tkey {k : List UInt8} (hk : (str k).size ≤ maxLen) : keyOf Tryz.prog 9 (.string (str k)) = some (tl k) := by
 have hkey := WideMaps.keyOf_string_mk Tryz.underlying9 hk
 rw [show (str k).data.toList = k from by simp] at hkey
 exact hkey
def TSet (w : World) (b : Nat) (S : List UInt8 → Bool) (m : Nat) : Prop :=
 ∃ D : DataW Unit, w.ownsMap Tryz.prog 9 (plainElem Tryz.prog 4) b m D ∧ ∀ k, Maps.has D (tl k) = S k ∧ (S k = true → D.atKey (tl k) (.lit (.bool false)) = .lit (.bool true))
theorem TSet.block {w w' : World} {b m : Nat} {S : List UInt8 → Bool} (h : TSet w b S m) (e : w'.heap[b]? = w.heap[b]?) : TSet w' b S m := by
 obtain ⟨D, h1, h2⟩ := h
 exact ⟨D, owns_block h1 e, h2⟩
theorem TSet.lt {w : World} {b m : Nat} {S : List UInt8 → Bool} (h : TSet w b S m) : b < w.heap.size := by
 obtain ⟨D, h1, h2⟩ := h
 exact h1.lt
theorem TSet.below {w w' : World} {b m : Nat} {S : List UInt8 → Bool} (h : TSet w b S m) (k : Below w.heap.size w w') : TSet w' b S m := h.block (k.block _ h.lt)
theorem TSet.made (w : World) : TSet (w.alloc (.map #[] 0)) w.heap.size (fun _ => false) 0 :=
 ⟨.map [], World.ownsMap_made w _ _ _, fun i => ⟨rfl, fun h => by cases h⟩⟩
theorem TSet.look {w : World} {b m : Nat} {S : List UInt8 → Bool} (h : TSet w b S m) (k : List UInt8) (hk : (str k).size ≤ maxLen) :
 (Instr.lookup 60 (.map (some b)) (.string (str k)) false).run Tryz.prog w = .ok (.bool (S k)) w := by
 obtain ⟨D, h1, h3⟩ := h
 obtain ⟨v, ps, hrun, hv⟩ := h1.lookup skeyed Tryz.underlying60 (zero_bool w) (plainElem_bool Tryz.underlying4 false) (tkey hk)
 obtain ⟨x, rfl, hx⟩ := bool_inv hv
 have hx1 : D.atKey (tl k) (.lit (.bool false)) = .lit (.bool x) := (Prod.mk.inj hx).1
 obtain ⟨h4, h5⟩ := h3 k
 rcases e : S k with _ | _
 · rw [e] at h4
   rw [Maps.atKey_of_not_has h4] at hx1
   simp only [DataW.lit.injEq, Lit.bool.injEq] at hx1
   rw [← hx1] at hrun
   exact hrun
 · rw [h5 e] at hx1
   simp only [DataW.lit.injEq, Lit.bool.injEq] at hx1
   rw [← hx1] at hrun
   exact hrun
theorem TSet.put {w : World} {b m : Nat} {S : List UInt8 → Bool} (h : TSet w b S m) (k : List UInt8) (hk : (str k).size ≤ maxLen) (hm : m < 1000000) :
 ∃ w', (Instr.mapUpdate 60 (.map (some b)) (.string (str k)) (.bool true)).run Tryz.prog w = .ok () w' ∧ TSet w' b (fun j => decide (j = k) || S j) (m + 1) ∧ w.grownBy w' (some b) := by
 obtain ⟨D, h1, h3⟩ := h
 have hkey := tkey hk
 have hisk : WideAt.IsKeyLit (tl k) := skeyed.key hkey
 obtain ⟨w', hrun, hown, hg⟩ := h1.update skeyed Tryz.underlying60 (by unfold maxLen; omega) hkey (plainElem_bool Tryz.underlying4 true)
 have htidy := h1.tidy skeyed
 refine ⟨w', hrun, ⟨D.put (tl k) (.lit (.bool true)), hown, fun j => ?_⟩, hg⟩
 by_cases hj : j = k
 · subst hj
   rw [Maps.has_put_same htidy.isMap hisk, Maps.atKey_put_same htidy.isMap hisk]
   simp
 · rw [Maps.has_put_other (tl_ne hj), Maps.atKey_put_other (tl_ne hj), (h3 j).1]
   simp only [hj, decide_false, Bool.false_or]
   exact ⟨trivial, (h3 j).2⟩
end Go.Proofs.YtijhamllnnilbaaGreatDoor.Ha
