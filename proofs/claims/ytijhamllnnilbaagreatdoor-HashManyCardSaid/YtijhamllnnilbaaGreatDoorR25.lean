/- Lemmas of the claim, in their order:
- The contracts of hash.Get, Depth.
- The table as a map: its tree, the pages it uses. No program in sight.
-/
import Derived.Test.YtijhamllnnilbaaGreatDoorR24
set_option linter.unusedVariables false
set_option linter.unusedSimpArgs false
namespace Go.Proofs.YtijhamllnnilbaaGreatDoor.Ha
open Go.RowKit Go.Proofs.YtijhamllnnilbaaGreatDoor.Mem Go.Proofs.YtijhamllnnilbaaGreatDoor.Pg Go.Proofs.YtijhamllnnilbaaGreatDoor.Kp Go.Proofs.YtijhamllnnilbaaGreatDoor.Sp Go.Proofs.YtijhamllnnilbaaGreatDoor.Gr
set_option linter.unusedSimpArgs false
set_option linter.unusedVariables false
theorem keep_set4 {S : Nat → Prop} {a b : World} (h : Keep S a b) {g : Nat} (k : S g ∨ a.heap.size ≤ g) (x y z u : Value) : Keep S a (set4 b g x y z u) :=
 (((h.setCell (j := 0) k x).setCell (j := 1) k y).setCell (j := 2) k z).setCell (j := 3) k u
def lookF (k : List UInt8) (l : List Cel) : Option Cel := l.find? (fun c => c.key = k)
theorem lookF_yes {k : List UInt8} {l : List Cel} (hn : (l.map Cel.key).Nodup) {c : Cel} (hc : c ∈ l) (hk : c.key = k) : lookF k l = some c := by
 unfold lookF
 induction l with
 | nil => simp at hc
 | cons a r ih =>
  rw [List.map_cons, List.nodup_cons] at hn
  rcases List.mem_cons.1 hc with h | h
  · subst h; simp [hk]
  · rw [List.find?_cons_of_neg]
    · exact ih hn.2 h
    · simp only [decide_eq_true_eq]
      exact fun e => hn.1 (e ▸ hk ▸ List.mem_map_of_mem h)
theorem lookF_no {k : List UInt8} {l : List Cel} (h : ¬ has k l) : lookF k l = none := by
 unfold lookF
 rw [List.find?_eq_none]
 exact fun c hc => by simp only [decide_eq_true_eq]; exact fun e => h ⟨c, hc, e⟩
theorem lookF_mem {k : List UInt8} {l : List Cel} {c : Cel} (h : lookF k l = some c) : c ∈ l ∧ c.key = k := ⟨List.mem_of_find?_eq_some h, by simpa using List.find?_some h⟩
def getRes (k : List UInt8) (l : List Cel) : Ending := match lookF k l with
 | some c => .returned (.tuple #[c.v, .int .i64 0])
 | none => .returned (.tuple #[zcV, .int .i64 3])
theorem has_cells {ps : List (Nat × List Cel)} {j m : Nat} {cs : List Cel} (h : ps[j]? = some (m, cs)) {c : Cel} (hc : c ∈ cs) : c ∈ cellsP ps :=
 List.mem_flatMap.2 ⟨(m, cs), List.mem_of_getElem? h, hc⟩
theorem FindPost.res {k : List UInt8} {ps : List (Nat × List Cel)} {e : Ending} (h : FindPost k ps e) (hs : ∀ p, p ∈ ps → Fits p.2) (hn : ((cellsP ps).map Cel.key).Nodup) :
 (∃ j m cs c, ps[j]? = some (m, cs) ∧ has k cs ∧ c ∈ cs ∧ lookF k (cellsP ps) = some c ∧ e = .returned (.tuple #[.int .i64 (j : Nat), c.v])) ∨ (¬ has k (cellsP ps) ∧ lookF k (cellsP ps) = none ∧ e = .returned (.tuple #[.int .i64 (-1), zcV])) := by
 rcases h with ⟨j, m, cs, hj, hh, he⟩ | ⟨hno, he⟩
 · have hf := (hs _ (List.mem_of_getElem? hj)).sorted
   have h1 := celAt_mem hf hh
   obtain ⟨_, _, h2⟩ := celAt_get hf hh
   exact .inl ⟨j, m, cs, celAt k cs, hj, hh, h1, lookF_yes hn (has_cells hj h1) h2, he⟩
 · have : ¬ has k (cellsP ps) := fun ⟨c, hc, e⟩ => by
    obtain ⟨p, hp, h1⟩ := List.mem_flatMap.1 hc
    exact hno p hp ⟨c, h1, e⟩
   exact .inr ⟨this, lookF_no this, he⟩
set_option maxRecDepth 100000 in
set_option maxHeartbeats 4000000 in
theorem get_ok (w0 w : World) (gb mb sb qb c n D : Nat) (pg : Nat → Pag) (tk : Int) (t : Tri) (key : List UInt8) (h : GV w0 w gb mb sb qb c n pg tk) (T : Tb n pg D t) :
 Calls Tryz.prog 25 #[.pointer (some ⟨gb, 0, none⟩), .string (str key)] w fun e w' =>
  e = (if keyOk key then getRes key (t.at' (sumF key)).cells else .returned (.tuple #[zcV, .int .i64 3])) ∧ GV w0 w' gb mb sb qb c n pg tk ∧ Rk w0.heap.size w w' := by
 have hkey := fun W => key_any key W
 have hopen := fun W (hW : GV w0 W gb mb sb qb c n pg tk) => open_ok w0 W gb mb sb qb c n D pg tk t hW T
 have hm := t.at_mem (sumF key)
 by_cases hk : keyOk key
 · have hl := hk.2
   have hbuck := fun W tb (hW : GV w0 W gb mb sb qb c n pg tk) (ht) (hge) => bucket_ok w0 W gb mb sb qb c n D tb pg tk t key hW T (by omega) ht hge
   have hfind := fun W C cb (hc : Ch C W cb gb ((t.at' (sumF key)).pags (t.dep (sumF key)))) =>
    (cfind_any W C cb gb _ (t.at' (sumF key)).pgs key hc (bkL_pags 3 _ (.inl rfl) _ (T.fits _ hm)) (by unfold Lf.pags; rw [pagsF_len]; exact Nat.succ_pos _) (by unfold Lf.pags; rw [pagsF_len]; have := (T.chn h.n64 (sumF key)).len; omega)).mono (fun e w' ⟨h1, h2⟩ => And.intro (h1.res (T.fits _ hm) (T.keys _ hm)) h2)
   rw [if_pos hk]
   rw [decide_eq_true hk] at hkey
   have hz := heap_alloc_new w zcO
   have Z0 := Lib.hid hz
   have B0 := Lib.hid (below_al (Below.refl _ w) zcO)
   have G0 := h.rk B0.out
   have hw0 : w0.heap.size ≤ w.heap.size := by have := h.base; have := h.lt; omega
   obtain ⟨U, hU⟩ : ∃ U, U = str key := ⟨_, rfl⟩
   rw [← hU] at hkey hbuck hfind ⊢
   have HB := Lib.hid hbuck
   have HF := Lib.hid hfind
   have hlt := h.lt
   clear hU hz h T hm hbuck hfind
   go_enter Tryz.func25, Tryz.ntmps25
   go_wp2_with fail
   with_reducible refine (hkey _).mono ?_
   rintro e w1 ⟨rfl, rfl⟩
   go_wp2_with fail
   with_reducible refine (hopen _ G0).mono ?_
   rintro e w2 ⟨tb, rfl, htb, ht, g2, k2⟩
   simp at htb
   have hbk := HB.out w2 tb g2 ht (by omega)
   have Z2 := Lib.hid (k2.blk Z0.out hw0)
   have K2 := Lib.hid (Rk.trans (.of_below B0.out) k2)
   clear g2 k2 ht G0 hkey hopen
   go_wp2_with fail
   with_reducible refine hbk.mono ?_
   rintro e w3 ⟨cb, rfl, hch, g3, k3⟩
   have hfd := HF.out w3 _ cb hch
   have Z3 := Lib.hid (k3.blk Z2.out hw0)
   have K3 := Lib.hid (K2.out.trans k3)
   have G3 := Lib.hid g3
   clear g3 k3 hch hbk
   go_wp2_with fail
   with_reducible refine hfd.mono ?_
   rintro e w4 ⟨hres, hb4⟩
   have Z4 := Lib.hid (blk_keep Z3.out hb4)
   have K4 := Lib.hid (K3.out.below hb4)
   have G4 := Lib.hid (G3.out.rk hb4)
   clear hb4 hfd
   rcases hres with ⟨j, m, cs, x, hj, hh, hx, hlk, rfl⟩ | ⟨hno, hlk, rfl⟩
   · have hres : getRes key (t.at' (sumF key)).cells = .returned (.tuple #[x.v, .int .i64 0]) := by unfold getRes; rw [Lf.cells_eq, hlk]
     have HR := Lib.hid hres
     simp only [Cel.v] at HR ⊢
     obtain ⟨U1, hU1⟩ : ∃ U, U = str x.key := ⟨_, rfl⟩
     obtain ⟨U2, hU2⟩ : ∃ U, U = str x.val := ⟨_, rfl⟩
     obtain ⟨xb, hxb⟩ : ∃ b : Int, b = x.blob := ⟨_, rfl⟩
     obtain ⟨xz, hxz⟩ : ∃ b : Int, b = x.size := ⟨_, rfl⟩
     rw [← hU1, ← hU2, ← hxb, ← hxz] at HR ⊢
     have z5 := hal (o := celO U1 U2 xb xz) Z4.out
     have cz5 := blk_cell z5
     have fz5 := blk_free z5
     have lz5 := lt_of_block z5
     have cx5 := blk_cell (heap_alloc_new w4 (celO U1 U2 xb xz))
     have zf := blk_cell (set4_same z5 (.string U1) (.string U2) (.int .i64 xb) (.int .i64 xz))
     have kf : Keep (fun j => j = w.heap.size) w4 (set4 (w4.alloc (celO U1 U2 xb xz)) w.heap.size (.string U1) (.string U2) (.int .i64 xb) (.int .i64 xz)) := keep_set4 (S := fun j => j = w.heap.size) (Keep.of_below (below_al (Below.refl _ w4) _)) (.inl rfl) _ _ _ _
     have GF := Lib.hid (G4.out.owns kf (fun i hi => by omega))
     have KF := Lib.hid (K4.out.keep kf (fun i hi => by omega))
     clear hU1 hU2 hxb hxz hres hlk hx hh hj kf z5 Z4 K4 G4
     go_wp2_with fail
     refine bodyPost_ret (v := .tuple #[.agg #[.string U1, .string U2, .int .i64 xb, .int .i64 xz], .int .i64 0]) (by simp [results, Tryz.results25, go_sem, zf]) rfl ⟨HR.out.symm, GF.out, KF.out⟩
   · have hres : getRes key (t.at' (sumF key)).cells = .returned (.tuple #[zcV, .int .i64 3]) := by unfold getRes; rw [Lf.cells_eq, hlk]
     have HR := Lib.hid hres
     have z5 := hal (o := zcO) Z4.out
     have cz5 := blk_cell z5
     have fz5 := blk_free z5
     have lz5 := lt_of_block z5
     have zf := blk_cell (set4_same z5 (.string ⟨#[]⟩) (.string ⟨#[]⟩) (.int .i64 0) (.int .i64 0))
     have kf : Keep (fun j => j = w.heap.size) w4 (set4 (w4.alloc zcO) w.heap.size (.string ⟨#[]⟩) (.string ⟨#[]⟩) (.int .i64 0) (.int .i64 0)) := keep_set4 (S := fun j => j = w.heap.size) (Keep.of_below (below_al (Below.refl _ w4) _)) (.inl rfl) _ _ _ _
     have GF := Lib.hid (G4.out.owns kf (fun i hi => by omega))
     have KF := Lib.hid (K4.out.keep kf (fun i hi => by omega))
     clear hres hlk hno kf z5 Z4 K4 G4
     go_wp2_with fail
     refine bodyPost_ret (v := .tuple #[zcV, .int .i64 3]) (by simp [results, Tryz.results25, go_sem, zf]) rfl ⟨HR.out.symm, GF.out, KF.out⟩
 · rw [if_neg hk]
   rw [decide_eq_false hk] at hkey
   have hz := heap_alloc_new w zcO
   have cz := blk_cell hz
   have fz := blk_free hz
   have lz := lt_of_block hz
   have B0 := below_al (Below.refl _ w) zcO
   have zf := cz
   have BF := Lib.hid B0
   have G := Lib.hid (h.rk BF.out)
   clear h T hopen hm
   go_enter Tryz.func25, Tryz.ntmps25
   go_wp2_with fail
   with_reducible refine (hkey _).mono ?_
   rintro e w1 ⟨rfl, rfl⟩
   go_wp2_with fail
   refine bodyPost_ret (v := .tuple #[zcV, .int .i64 3]) (by simp [results, Tryz.results25, go_sem, zf]) rfl ⟨rfl, G.out, .of_below BF.out⟩
end Go.Proofs.YtijhamllnnilbaaGreatDoor.Ha
namespace Go.Proofs.YtijhamllnnilbaaGreatDoor.Ha
open Go.RowKit Go.Proofs.YtijhamllnnilbaaGreatDoor.Mem Go.Proofs.YtijhamllnnilbaaGreatDoor.Pg Go.Proofs.YtijhamllnnilbaaGreatDoor.Gr Go.Proofs.YtijhamllnnilbaaGreatDoor.Sp
set_option linter.unusedVariables false
set_option linter.unusedSimpArgs false
structure Hs (n : Nat) (pg : Nat → Pag) (D : Nat) (t : Tri) (ml : List UInt8) (X : List Nat) : Prop where
 tb : Tb n pg D t
 map : ∃ md mx, pg 1 = ⟨2, md, mx, ml⟩
 is : IsMap n ml
 used : ∀ m, 2 ≤ m → m < n → (bt ml m = 1 ↔ m ∈ numsF t.leaves ∨ m ∈ X)
 xr : ∀ m, m ∈ X → 2 ≤ m ∧ m < n
 xd : ∀ m, m ∈ X → m ∉ numsF t.leaves
 xn : X.Nodup
def lookT (t : Tri) (k : List UInt8) : Option Cel := lookF k (t.at' (sumF k)).cells
theorem has_iff_look {k : List UInt8} {l : List Cel} : has k l ↔ lookF k l ≠ none := by
 constructor
 · rintro ⟨c, h1, h2⟩ h
   unfold lookF at h
   rw [List.find?_eq_none] at h
   exact h c h1 (by simpa using h2)
 · intro h
   cases e : lookF k l with
   | none => exact absurd e h
   | some c => exact ⟨c, (lookF_mem e).1, (lookF_mem e).2⟩
theorem lookF_perm {k : List UInt8} {l l' : List Cel} (hp : l'.Perm l) (hn : (l.map Cel.key).Nodup) : lookF k l' = lookF k l := by
 have hn' : (l'.map Cel.key).Nodup := (hp.map Cel.key).nodup_iff.2 hn
 cases e : lookF k l with
 | none => exact lookF_no (fun ⟨c, h1, h2⟩ => by rw [lookF_yes hn (hp.mem_iff.1 h1) h2] at e; simp at e)
 | some c => exact lookF_yes hn' (hp.mem_iff.2 (lookF_mem e).1) (lookF_mem e).2
theorem cut_nodup {k : List UInt8} {l : List Cel} (h : (l.map Cel.key).Nodup) : ((cutK k l).map Cel.key).Nodup := by
 unfold cutK
 exact (List.filter_sublist.map _).nodup h
theorem lookF_cut (k k' : List UInt8) (l : List Cel) : lookF k (cutK k' l) = if k = k' then none else lookF k l := by
 by_cases e : k = k'
 · subst e
   rw [if_pos rfl]
   exact lookF_no (has_cut _ _)
 · rw [if_neg e]
   unfold lookF cutK
   induction l with
   | nil => rfl
   | cons a r ih =>
    by_cases h1 : a.key = k'
    · rw [List.filter_cons_of_neg (by simp [h1]), ih, List.find?_cons_of_neg (by simp [h1]; exact fun h => e h.symm)]
    · rw [List.filter_cons_of_pos (by simp [h1])]
      by_cases h2 : a.key = k
      · rw [List.find?_cons_of_pos (by simp [h2]), List.find?_cons_of_pos (by simp [h2])]
      · rw [List.find?_cons_of_neg (by simp [h2]), List.find?_cons_of_neg (by simp [h2]), ih]
theorem lookF_set {x : Cel} {l l' : List Cel} (hp : l'.Perm (x :: cutK x.key l)) (hn : (l.map Cel.key).Nodup) (k : List UInt8) : lookF k l' = if k = x.key then some x else lookF k l := by
 have hn2 : ((x :: cutK x.key l).map Cel.key).Nodup := by
  rw [List.map_cons, List.nodup_cons]
  refine ⟨fun h => ?_, cut_nodup hn⟩
  obtain ⟨c, h1, h2⟩ := List.mem_map.1 h
  exact has_cut _ _ ⟨c, h1, h2⟩
 rw [lookF_perm hp hn2]
 by_cases e : k = x.key
 · rw [if_pos e]
   exact lookF_yes hn2 (List.mem_cons_self ..) e.symm
 · rw [if_neg e]
   have := lookF_cut k x.key l
   rw [if_neg e] at this
   rw [← this]
   unfold lookF
   rw [List.find?_cons_of_neg (by simp; exact fun h => e h.symm)]
variable {n D : Nat} {pg pg' : Nat → Pag} {t s : Tri} {ml ml' : List UInt8} {X : List Nat}
theorem lookT_upd (t : Tri) (h : Nat) (b' : Lf) (k : List UInt8) : lookT (t.upd h (t.dep h) (.leaf b')) k = if sumF k % 2 ^ t.dep h = h % 2 ^ t.dep h then lookF k b'.cells else lookT t k := by
 unfold lookT
 rw [Tri.at_upd _ _ t h _ (Nat.le_refl _)]
 by_cases e : sumF k % 2 ^ t.dep h = h % 2 ^ t.dep h
 · rw [if_pos e, if_pos e]; rfl
 · rw [if_neg e, if_neg e]
theorem at_same (t : Tri) (h i : Nat) (e : i % 2 ^ t.dep h = h % 2 ^ t.dep h) : t.at' i = t.at' h ∧ t.dep i = t.dep h := by
 refine ⟨?_, ?_⟩
 · rw [Tri.at_sub t (t.dep h) h i (Nat.le_refl _) e, Tri.sub_dep]; rfl
 · rw [Tri.dep_sub t (t.dep h) h i (Nat.le_refl _) e, Tri.sub_dep]; rfl
theorem ents_upd (D : Nat) (t : Tri) (h : Nat) (b' : Lf) (hn : b'.n = (t.at' h).n) : entsF D (t.upd h (t.dep h) (.leaf b')) = entsF D t := by
 unfold entsF
 refine List.map_congr_left fun i _ => ?_
 rw [Tri.at_upd _ _ t h _ (Nat.le_refl _)]
 by_cases e : i % 2 ^ t.dep h = h % 2 ^ t.dep h
 · rw [if_pos e, (at_same t h i e).1]
   show ((b'.n : Nat) : Int) = _
   rw [hn]
 · rw [if_neg e]
theorem Hs.leaf (H : Hs n pg D t ml X) (h : Nat) (b' : Lf) (hn : b'.n = (t.at' h).n) (shown : ∀ q, q ∈ b'.pags (t.dep h) → pg' q.1 = q.2) (fits : ∀ p, p ∈ b'.pgs → Fits p.2)
 (new : ∀ m, m ∈ b'.nums → m ∈ (t.at' h).nums ∨ (2 ≤ m ∧ m < n ∧ m ∉ numsF t.leaves ∧ m ∉ X)) (nodup : b'.nums.Nodup)
 (cells : ∀ c, c ∈ b'.cells → sumF c.key % 2 ^ t.dep h = h % 2 ^ t.dep h) (keys : (b'.cells.map Cel.key).Nodup) (hp0 : pg' 0 = pg 0) (hp1 : ∃ md mx, pg' 1 = ⟨2, md, mx, ml'⟩) (his : IsMap n ml')
 (same : ∀ m, m ∈ numsF t.leaves → m ∉ (t.at' h).nums → pg' m = pg m)
 (used : ∀ m, 2 ≤ m → m < n → (bt ml' m = 1 ↔ (bt ml m = 1 ∧ m ∉ (t.at' h).nums) ∨ m ∈ b'.nums)) :
 Hs n pg' D (t.upd h (t.dep h) (.leaf b')) ml' X := by
 have T := H.tb
 have hk : t.dep h ≤ t.dep h := Nat.le_refl _
 have hleaf : (Tri.leaf b').leaves = [b'] := rfl
 have hsub : (t.sub h (t.dep h)).leaves = [t.at' h] := by rw [Tri.sub_dep]; rfl
 have n1 : ∀ b : Lf, numsF [b] = b.nums := fun b => by simp [numsF]
 have hbm : ∀ m, m ∈ (t.at' h).nums → m ∈ numsF t.leaves := fun m hm => numsF_mem (t.at_mem h) hm
 have P : Part n pg' t h (t.dep h) (.leaf b') := by
  refine ⟨fun i q hq => shown q hq, fun b hb => ?_, ?_, fun m hm => ?_, fun m hm => ?_, fun b hb c hc => ?_, fun b hb => ?_⟩
  · rw [hleaf, List.mem_singleton] at hb; subst hb; exact fits
  · rw [hleaf, n1]; exact nodup
  · rw [hleaf, n1] at hm
    rcases new m hm with h1 | h1
    · exact T.rng m (hbm m h1)
    · exact ⟨h1.1, h1.2.1⟩
  · rw [hleaf, n1] at hm
    rw [hsub, n1]
    rcases new m hm with h1 | h1
    · exact .inl h1
    · exact .inr h1.2.2.1
  · rw [hleaf, List.mem_singleton] at hb; subst hb
    exact ⟨cells c hc, rfl⟩
  · rw [hleaf, List.mem_singleton] at hb; subst hb; exact keys
 obtain ⟨L, R, e1, e2⟩ := Tri.leaves_upd (t.dep h) t h hk
 rw [hsub] at e1
 have e3 := e2 (.leaf b')
 rw [hleaf] at e3
 have hnd := T.nums
 rw [e1, numsF_append, numsF_append, n1, List.nodup_append, List.nodup_append] at hnd
 have hmem : ∀ m, m ∈ numsF (t.upd h (t.dep h) (.leaf b')).leaves ↔ (m ∈ numsF t.leaves ∧ m ∉ (t.at' h).nums) ∨ m ∈ b'.nums := fun m => by
  rw [e3, e1]
  simp only [numsF_append, n1, List.mem_append]
  have h1 : m ∈ numsF L → m ∉ (t.at' h).nums := fun h1 h2 => hnd.2.2 m h1 m (List.mem_append_left _ h2) rfl
  have h2 : m ∈ numsF R → m ∉ (t.at' h).nums := fun h1 h2 => hnd.2.1.2.2 m h2 m h1 rfl
  constructor
  · rintro (h3 | h3 | h3)
    · exact .inl ⟨.inl h3, h1 h3⟩
    · exact .inr h3
    · exact .inl ⟨.inr (.inr h3), h2 h3⟩
  · rintro (⟨h3 | h3 | h3, h4⟩ | h3)
    · exact .inl h3
    · exact absurd h3 h4
    · exact .inr (.inr h3)
    · exact .inr (.inl h3)
 refine ⟨T.upd hk P (Nat.le_refl _) ?_ T.d5 ?_ (fun m h1 h2 => same m h1 (by rw [hsub, n1] at h2; exact h2)), hp1, his, fun m h2 hm => ?_, H.xr, fun m hm h1 => ?_, H.xn⟩
 · have := t.dep_le h
   have := T.hi
   show t.dep h + 0 ≤ D
   omega
 · rw [hp0, T.dirp]
   unfold dirF
   rw [ents_upd D t h b' hn]
 · rw [used m h2 hm, hmem m, H.used m h2 hm]
   constructor
   · rintro (⟨h3 | h3, h4⟩ | h3)
     · exact .inl (.inl ⟨h3, h4⟩)
     · exact .inr h3
     · exact .inl (.inr h3)
   · rintro ((⟨h3, h4⟩ | h3) | h3)
     · exact .inl ⟨.inl h3, h4⟩
     · exact .inr h3
     · exact .inl ⟨.inr h3, fun h4 => H.xd m h3 (hbm m h4)⟩
 · rcases (hmem m).1 h1 with h3 | h3
   · exact H.xd m hm h3.1
   · rcases new m h3 with h4 | h4
     · exact H.xd m hm (hbm m h4)
     · exact h4.2.2.2 hm
def lfOf : List (Nat × List Cel) → Lf
 | [] => ⟨0, [], []⟩
 | p :: r => ⟨p.1, p.2, r⟩
theorem lfOf_pgs {ps : List (Nat × List Cel)} (h : ps ≠ []) : (lfOf ps).pgs = ps := by
 cases ps with
 | nil => exact absurd rfl h
 | cons p r => rfl
theorem lfOf_n {ps : List (Nat × List Cel)} {b : Lf} (h : ps.map (·.1) = b.nums) : (lfOf ps).n = b.n := by
 cases ps with
 | nil => simp [Lf.nums, Lf.pgs] at h
 | cons p r => simp [Lf.nums, Lf.pgs] at h; exact h.1
def SameX (X : List Nat) (pg pg' : Nat → Pag) : Prop := ∀ m, m ∈ X → pg' m = pg m
theorem SameX.refl (X : List Nat) (pg : Nat → Pag) : SameX X pg pg := fun _ _ => rfl
theorem SameX.trans {X : List Nat} {a b d : Nat → Pag} (h : SameX X a b) (k : SameX X b d) : SameX X a d := fun m hm => (k m hm).trans (h m hm)
theorem SameX.upd {X : List Nat} {a b : Nat → Pag} (h : SameX X a b) {i : Nat} (hi : i ∉ X) (p : Pag) : SameX X a (updN b i p) := fun m hm => by
 have hne : m ≠ i := fun e => hi (by rw [← e]; exact hm)
 rw [updN_other _ _ hne]
 exact h m hm
theorem Hs.tabX {n D : Nat} {pg : Nat → Pag} {t : Tri} {ml : List UInt8} {X : List Nat} (H : Hs n pg D t ml X) {h j m : Nat} {q : Pag} (hq : ((t.at' h).pags (t.dep h))[j]? = some (m, q)) : m ∉ X := fun hm => by
 have h0 := congrArg (Option.map (·.1)) hq
 rw [← List.getElem?_map] at h0
 unfold Lf.pags at h0
 rw [pagsF_nums] at h0
 exact H.xd m hm (numsF_mem (t.at_mem h) (List.mem_of_getElem? h0))
theorem Hs.notX {n D : Nat} {pg : Nat → Pag} {t : Tri} {ml : List UInt8} {X : List Nat} (H : Hs n pg D t ml X) {m : Nat} (hm : m < 2) : m ∉ X := fun h => by have := (H.xr m h).1; omega
end Go.Proofs.YtijhamllnnilbaaGreatDoor.Ha
