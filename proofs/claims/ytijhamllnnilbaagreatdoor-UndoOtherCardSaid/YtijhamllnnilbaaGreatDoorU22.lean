/- Lemmas of the claim, in their order:
- The contracts of hash's fit, cut of a bucket, more.
- The contracts of hash.Get, Depth.
- The table as a map: its tree, the pages it uses. No program in sight.
- The table when a page of a bucket changes. No program in sight.
- What Set does to the table. No program in sight.
- The contract of hash.Set.
- The contract of hash.Cut where nothing shrinks, of Depth.
-/
import Derived.Test.YtijhamllnnilbaaGreatDoorU21
import Derived.Deep.LoopGhost
import Derived.Deep.DeepCutAuto
set_option linter.unusedVariables false
set_option linter.unusedSimpArgs false
namespace Go.Proofs.YtijhamllnnilbaaGreatDoor.Ha
open Go.RowKit Go.Proofs.YtijhamllnnilbaaGreatDoor.Mem Go.Proofs.YtijhamllnnilbaaGreatDoor.Pg Go.Proofs.YtijhamllnnilbaaGreatDoor.Kp Go.Proofs.YtijhamllnnilbaaGreatDoor.Sp Go.Proofs.YtijhamllnnilbaaGreatDoor.Gr
set_option linter.unusedSimpArgs false
set_option linter.unusedVariables false
/-- All that was there still stands. -/
abbrev Bz (a b : World) : Prop := Below a.heap.size a b
/-- No page of a bucket has room. -/
def NoFit (x : Cel) (ps : List (Nat × List Cel)) : Prop := ∀ (i m : Nat) (cs : List Cel), ps[i]? = some (m, cs) → ¬ szs (ins x cs) ≤ 239
end Go.Proofs.YtijhamllnnilbaaGreatDoor.Ha
namespace Go.Proofs.YtijhamllnnilbaaGreatDoor.Ha
open Go.RowKit Go.Proofs.YtijhamllnnilbaaGreatDoor.Mem Go.Proofs.YtijhamllnnilbaaGreatDoor.Pg Go.Proofs.YtijhamllnnilbaaGreatDoor.Kp Go.Proofs.YtijhamllnnilbaaGreatDoor.Sp Go.Proofs.YtijhamllnnilbaaGreatDoor.Gr
set_option linter.unusedSimpArgs false
set_option linter.unusedVariables false
/-- A key's cell. -/
def lookF (k : List UInt8) (l : List Cel) : Option Cel := l.find? (fun c => c.key = k)
theorem lookF_yes {k : List UInt8} {l : List Cel} (hn : (l.map Cel.key).Nodup) {c : Cel} (hc : c ∈ l) (hk : c.key = k) : lookF k l = some c := by
  unfold lookF
  induction l with
  | nil => simp at hc
  | cons a r ih =>
    rw [List.map_cons, List.nodup_cons] at hn
    rcases List.mem_cons.1 hc with h | h
    · subst h; simp [hk]
    · rw [List.find?_cons_of_neg]
      · exact ih hn.2 h
      · simp only [decide_eq_true_eq]
        exact fun e => hn.1 (e ▸ hk ▸ List.mem_map_of_mem h)
theorem lookF_no {k : List UInt8} {l : List Cel} (h : ¬ has k l) : lookF k l = none := by
  unfold lookF
  rw [List.find?_eq_none]
  exact fun c hc => by simp only [decide_eq_true_eq]; exact fun e => h ⟨c, hc, e⟩
theorem has_cells {ps : List (Nat × List Cel)} {j m : Nat} {cs : List Cel} (h : ps[j]? = some (m, cs)) {c : Cel} (hc : c ∈ cs) : c ∈ cellsP ps :=
  List.mem_flatMap.2 ⟨(m, cs), List.mem_of_getElem? h, hc⟩
theorem FindPost.res {k : List UInt8} {ps : List (Nat × List Cel)} {e : Ending} (h : FindPost k ps e) (hs : ∀ p, p ∈ ps → Fits p.2) (hn : ((cellsP ps).map Cel.key).Nodup) :
    (∃ j m cs c, ps[j]? = some (m, cs) ∧ has k cs ∧ c ∈ cs ∧ lookF k (cellsP ps) = some c ∧ e = .returned (.tuple #[.int .i64 (j : Nat), c.v])) ∨ (¬ has k (cellsP ps) ∧ lookF k (cellsP ps) = none ∧ e = .returned (.tuple #[.int .i64 (-1), zcV])) := by
  rcases h with ⟨j, m, cs, hj, hh, he⟩ | ⟨hno, he⟩
  · have hf := (hs _ (List.mem_of_getElem? hj)).sorted
    have h1 := celAt_mem hf hh
    obtain ⟨_, _, h2⟩ := celAt_get hf hh
    exact .inl ⟨j, m, cs, celAt k cs, hj, hh, h1, lookF_yes hn (has_cells hj h1) h2, he⟩
  · have : ¬ has k (cellsP ps) := fun ⟨c, hc, e⟩ => by
      obtain ⟨p, hp, h1⟩ := List.mem_flatMap.1 hc
      exact hno p hp ⟨c, h1, e⟩
    exact .inr ⟨this, lookF_no this, he⟩
end Go.Proofs.YtijhamllnnilbaaGreatDoor.Ha
namespace Go.Proofs.YtijhamllnnilbaaGreatDoor.Ha
open Go.RowKit Go.Proofs.YtijhamllnnilbaaGreatDoor.Mem Go.Proofs.YtijhamllnnilbaaGreatDoor.Pg Go.Proofs.YtijhamllnnilbaaGreatDoor.Gr Go.Proofs.YtijhamllnnilbaaGreatDoor.Sp
set_option linter.unusedVariables false
set_option linter.unusedSimpArgs false
/-- The table, the map of its pages, and the pages X that are used for something else. -/
structure Hs (n : Nat) (pg : Nat → Pag) (D : Nat) (t : Tri) (ml : List UInt8) (X : List Nat) : Prop where
  tb : Tb n pg D t
  map : ∃ md mx, pg 1 = ⟨2, md, mx, ml⟩
  is : IsMap n ml
  used : ∀ m, 2 ≤ m → m < n → (bt ml m = 1 ↔ m ∈ numsF t.leaves ∨ m ∈ X)
  xr : ∀ m, m ∈ X → 2 ≤ m ∧ m < n
  xd : ∀ m, m ∈ X → m ∉ numsF t.leaves
  xn : X.Nodup
/-- The cell of a key. -/
def lookT (t : Tri) (k : List UInt8) : Option Cel := lookF k (t.at' (sumF k)).cells
variable {n D : Nat} {pg pg' : Nat → Pag} {t s : Tri} {ml ml' : List UInt8} {X : List Nat}
/-- A bucket out of its pages. -/
def lfOf : List (Nat × List Cel) → Lf
  | [] => ⟨0, [], []⟩
  | p :: r => ⟨p.1, p.2, r⟩
end Go.Proofs.YtijhamllnnilbaaGreatDoor.Ha
namespace Go.Proofs.YtijhamllnnilbaaGreatDoor.Ha
open Go.RowKit Go.Proofs.YtijhamllnnilbaaGreatDoor.Mem Go.Proofs.YtijhamllnnilbaaGreatDoor.Pg Go.Proofs.YtijhamllnnilbaaGreatDoor.Gr Go.Proofs.YtijhamllnnilbaaGreatDoor.Sp
set_option linter.unusedVariables false
set_option linter.unusedSimpArgs false
variable {n D : Nat} {pg pg' : Nat → Pag} {t s : Tri} {ml ml' : List UInt8} {X : List Nat}
end Go.Proofs.YtijhamllnnilbaaGreatDoor.Ha
namespace Go.Proofs.YtijhamllnnilbaaGreatDoor.Ha
open Go.RowKit Go.Proofs.YtijhamllnnilbaaGreatDoor.Mem Go.Proofs.YtijhamllnnilbaaGreatDoor.Pg Go.Proofs.YtijhamllnnilbaaGreatDoor.Gr Go.Proofs.YtijhamllnnilbaaGreatDoor.Sp
set_option linter.unusedVariables false
set_option linter.unusedSimpArgs false
/-- The table in memory. -/
structure St (w0 w : World) (gb mb sb qb c n : Nat) (pg : Nat → Pag) (D : Nat) (t : Tri) (ml : List UInt8) (X : List Nat) (tk0 : Int) : Prop where
  gv : GV w0 w gb mb sb qb c n pg (tk0 + ((numsF t.leaves).length : Int))
  hs : Hs n pg D t ml X
/-- A key's bucket with other pages. -/
def updB (t : Tri) (h : Nat) (ps : List (Nat × List Cel)) : Tri := t.upd h (t.dep h) (.leaf (lfOf ps))
/-- A key's bucket without the key. -/
def cutT (k : List UInt8) (t : Tri) : Tri := updB t (sumF k) (cutP k (t.at' (sumF k)).pgs)
/-- A bucket parted in two. -/
def bitF (d : Nat) (c : Cel) : Bool := sumF c.key / 2 ^ d % 2 = 0
def SplitTri (h : Nat) (t t' : Tri) : Prop := ∃ m, m ∉ numsF t.leaves ∧ t' = t.upd h (t.dep h) (.node (.leaf ⟨(t.at' h).n, (t.at' h).cs.filter (bitF (t.dep h)), []⟩) (.leaf ⟨m, (t.at' h).cs.filter (fun c => !bitF (t.dep h) c), []⟩))
/-- Splits, as long as there is no room for a cell. -/
inductive Grown (x : Cel) (grow : Bool) : Tri → Tri → Prop
  | refl (t : Tri) : Grown x grow t t
  | step {t t1 t2 : Tri} (hg : grow = true) (hn : NoFit x (t.at' (sumF x.key)).pgs) (hov : (t.at' (sumF x.key)).ov = []) (hd : t.dep (sumF x.key) < 5) (hs : SplitTri (sumF x.key) t t1) (hr : Grown x grow t1 t2) : Grown x grow t t2
/-- What Set does. -/
def SetOk (x : Cel) (grow : Bool) (t t' : Tri) : Prop :=
  (∃ j m cs, (t.at' (sumF x.key)).pgs[j]? = some (m, cs) ∧ has x.key cs ∧ szs (ins x cs) ≤ 239 ∧ t' = updB t (sumF x.key) ((t.at' (sumF x.key)).pgs.set j (m, ins x cs))) ∨
  (∃ t1, Grown x grow (cutT x.key t) t1 ∧
    ((∃ j m cs, (t1.at' (sumF x.key)).pgs[j]? = some (m, cs) ∧ szs (ins x cs) ≤ 239 ∧ (∀ i, i < j → ∀ (m : Nat) (cs : List Cel), (t1.at' (sumF x.key)).pgs[i]? = some (m, cs) → ¬ szs (ins x cs) ≤ 239) ∧ t' = updB t1 (sumF x.key) ((t1.at' (sumF x.key)).pgs.set j (m, ins x cs))) ∨
     (NoFit x (t1.at' (sumF x.key)).pgs ∧ (grow = false ∨ 5 ≤ t1.dep (sumF x.key) ∨ (t1.at' (sumF x.key)).ov ≠ []) ∧ ∃ i, i ∉ numsF t1.leaves ∧ t' = updB t1 (sumF x.key) ((t1.at' (sumF x.key)).pgs ++ [(i, [x])]))))
variable {n D : Nat} {pg : Nat → Pag} {t : Tri} {ml : List UInt8} {X : List Nat}
end Go.Proofs.YtijhamllnnilbaaGreatDoor.Ha
namespace Go.Proofs.YtijhamllnnilbaaGreatDoor.Ha
open Go.RowKit Go.Proofs.YtijhamllnnilbaaGreatDoor.Mem Go.Proofs.YtijhamllnnilbaaGreatDoor.Pg Go.Proofs.YtijhamllnnilbaaGreatDoor.Kp Go.Proofs.YtijhamllnnilbaaGreatDoor.Sp Go.Proofs.YtijhamllnnilbaaGreatDoor.Gr
set_option linter.unusedSimpArgs false
set_option linter.unusedVariables false
/-- The directory is as deep as it was, but for splits. -/
def SetDeep (D D' : Nat) (x : Cel) (grow : Bool) (t : Tri) : Prop := D' = D ∨ (grow = true ∧ NoFit x ((cutT x.key t).at' (sumF x.key)).pgs)
/-- What Set tells. -/
def SetPost (w0 : World) (gb mb sb qb c n D : Nat) (t : Tri) (X : List Nat) (tk0 : Int) (x : Cel) (grow : Bool) (e : Ending) (w' : World) : Prop :=
  (e = .returned (.int .i64 0) ∧ ∃ pg' D' t' ml', St w0 w' gb mb sb qb c n pg' D' t' ml' X tk0 ∧ SetOk x grow t t' ∧ (∀ k, lookT t' k = if k = x.key then some x else lookT t k) ∧ SetDeep D D' x grow t) ∨
  (e = .returned (.int .i64 6) ∧ ∃ pg' D' t' ml', St w0 w' gb mb sb qb c n pg' D' t' ml' X tk0 ∧ Grown x grow (cutT x.key t) t' ∧ NoFit x (t'.at' (sumF x.key)).pgs ∧ takeI 2 ml' < 0)
end Go.Proofs.YtijhamllnnilbaaGreatDoor.Ha
namespace Go.Proofs.YtijhamllnnilbaaGreatDoor.Ha
open Go.RowKit Go.Proofs.YtijhamllnnilbaaGreatDoor.Mem Go.Proofs.YtijhamllnnilbaaGreatDoor.Pg Go.Proofs.YtijhamllnnilbaaGreatDoor.Kp Go.Proofs.YtijhamllnnilbaaGreatDoor.Sp Go.Proofs.YtijhamllnnilbaaGreatDoor.Gr
set_option linter.unusedSimpArgs false
set_option linter.unusedVariables false
set_option maxRecDepth 100000 in
set_option maxHeartbeats 4000000 in
/-- Of a key that is not there. -/
theorem cut_none_ok (w0 w : World) (gb mb sb qb c n D : Nat) (pg : Nat → Pag) (tk : Int) (t : Tri) (key : List UInt8) (shrink : Bool) (h : GV w0 w gb mb sb qb c n pg tk) (T : Tb n pg D t) (hno : ¬ (keyOk key ∧ has key (t.at' (sumF key)).cells)) :
    Calls Tryz.prog 32 #[.pointer (some ⟨gb, 0, none⟩), .string (str key), .bool shrink] w fun e w' =>
      e = .returned (.int .i64 3) ∧ GV w0 w' gb mb sb qb c n pg tk ∧ Rk w0.heap.size w w' := by
  have hkey := fun W => key_any key W
  have hopen := open_ok w0 w gb mb sb qb c n D pg tk t h T
  have hm := t.at_mem (sumF key)
  by_cases hk : keyOk key
  · have hl := hk.2
    have hnh : ¬ has key (t.at' (sumF key)).cells := fun h => hno ⟨hk, h⟩
    have hbuck := fun W tb (hW : GV w0 W gb mb sb qb c n pg tk) (ht) (hge) => bucket_ok w0 W gb mb sb qb c n D tb pg tk t key hW T (by omega) ht hge
    have hfind := fun W C cb (hc : Ch C W cb gb ((t.at' (sumF key)).pags (t.dep (sumF key)))) =>
      (cfind_any W C cb gb _ (t.at' (sumF key)).pgs key hc (bkL_pags 3 _ (.inl rfl) _ (T.fits _ hm)) (by unfold Lf.pags; rw [pagsF_len]; exact Nat.succ_pos _) (by unfold Lf.pags; rw [pagsF_len]; have := (T.chn h.n64 (sumF key)).len; omega)).mono (R' := fun e w' => e = .returned (.tuple #[.int .i64 (-1), zcV]) ∧ Below W.heap.size W w') (fun e w' ⟨h1, h2⟩ => And.intro (by
        rcases h1.res (T.fits _ hm) (T.keys _ hm) with ⟨j, m, cs, y, hj, hh, _⟩ | ⟨_, _, he⟩
        · exact absurd (show has key (t.at' (sumF key)).cells from by obtain ⟨y, h3, h4⟩ := hh; exact ⟨y, has_cells hj h3, h4⟩) hnh
        · exact he) h2)
    rw [decide_eq_true hk] at hkey
    have hw0 : w0.heap.size ≤ w.heap.size := by have := h.base; have := h.lt; omega
    obtain ⟨U, hU⟩ : ∃ U, U = str key := ⟨_, rfl⟩
    rw [← hU] at hkey hbuck hfind ⊢
    have HB := Lib.hid hbuck
    have HF := Lib.hid hfind
    clear hU h T hm hbuck hfind hno hnh
    go_enter Tryz.func32, Tryz.ntmps32
    go_wp2_with fail
    with_reducible refine (hkey _).mono ?_
    rintro e w1 ⟨rfl, rfl⟩
    go_wp2_with fail
    with_reducible refine hopen.mono ?_
    rintro e w2 ⟨tb, rfl, htb, ht, g2, k2⟩
    have hbk := HB.out w2 tb g2 ht (by omega)
    have K2 := Lib.hid k2
    clear g2 k2 ht hkey hopen
    go_wp2_with fail
    with_reducible refine hbk.mono ?_
    rintro e w3 ⟨cb, rfl, hch, g3, k3⟩
    have hfd := HF.out w3 _ cb hch
    have K3 := Lib.hid (K2.out.trans k3)
    have G3 := Lib.hid g3
    clear g3 k3 hch hbk
    go_wp2_with fail
    with_reducible refine hfd.mono ?_
    rintro e w4 ⟨rfl, hb4⟩
    have K4 := Lib.hid ((K3.out.below hb4).below (below_al (Below.refl _ w4) zcO))
    have G4 := Lib.hid ((G3.out.rk hb4).rk (below_al (Below.refl _ w4) zcO))
    clear hb4 hfd
    go_wp2_with fail
    go_ret
    exact ⟨rfl, G4.out, K4.out⟩
  · rw [decide_eq_false hk] at hkey
    have G := Lib.hid h
    clear h T hopen hm hno
    go_enter Tryz.func32, Tryz.ntmps32
    go_wp2_with fail
    with_reducible refine (hkey _).mono ?_
    rintro e w1 ⟨rfl, rfl⟩
    go_wp2_with fail
    go_ret
    exact ⟨rfl, G.out, .refl _ _⟩
end Go.Proofs.YtijhamllnnilbaaGreatDoor.Ha
