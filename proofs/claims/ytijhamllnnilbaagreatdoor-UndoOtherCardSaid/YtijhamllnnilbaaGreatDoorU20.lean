/- Lemmas of the claim, in their order:
- What hash's functions keep of memory; a bucket's pages as the code holds them.
- The contracts of hash's open and read.
- The contract of hash's read. (Printed by tools/gen_read.py.)
-/
import Derived.Test.YtijhamllnnilbaaGreatDoorU15
import Derived.Test.YtijhamllnnilbaaGreatDoorU18
import Derived.Test.YtijhamllnnilbaaGreatDoorU19
set_option linter.unusedVariables false
set_option linter.unusedSimpArgs false
namespace Go.Proofs.YtijhamllnnilbaaGreatDoor.Ha
open Go.RowKit Go.Proofs.YtijhamllnnilbaaGreatDoor.Mem Go.Proofs.YtijhamllnnilbaaGreatDoor.Pg Go.Proofs.YtijhamllnnilbaaGreatDoor.Kp Go.Proofs.YtijhamllnnilbaaGreatDoor.Sp Go.Proofs.YtijhamllnnilbaaGreatDoor.Gr
set_option linter.unusedSimpArgs false
set_option linter.unusedVariables false
/-- What reading a group changes: nothing of the caller's own (blocks from B on). -/
structure Rk (B : Nat) (w w' : World) : Prop where
  bel : Below w.heap.size w w'
section
variable {B gb mb : Nat} {w a b c : World}
theorem Rk.of_below (h : Below w.heap.size w a) : Rk B w a := ⟨h⟩
theorem Rk.refl (B : Nat) (w : World) : Rk B w w := ⟨Below.refl _ _⟩
theorem Rk.trans (h : Rk B a b) (k : Rk B b c) : Rk B a c := ⟨below_tr h.bel k.bel⟩
theorem Rk.size (h : Rk B a b) : a.heap.size ≤ b.heap.size := h.bel.size
theorem Rk.blk {g : Nat} {X : Obj} (h : Rk B a b) (hx : a.heap[g]? = some X) (hB : B ≤ g) : b.heap[g]? = some X := blk_keep hx h.bel
theorem Rk.row {base : Nat} {e : TypeId} {size n : Nat} {v : Value} {xs : List Value} (h : Rk B a b) (hr : a.ownsRow base e size v n xs) (hB : B ≤ base) : b.ownsRow base e size v n xs := own_below hr h.bel
/-- What the call has made is its own. -/
theorem Rk.keep {S : Nat → Prop} (h : Rk B a b) (k : Keep S b c) (hS : ∀ i, S i → a.heap.size ≤ i) : Rk B a c := ⟨h.bel.trans (k.to_below h.size hS)⟩
theorem Rk.below (h : Rk B a b) (k : Below b.heap.size b c) : Rk B a c := ⟨below_tr h.bel k⟩
variable {C : Nat}
end
end Go.Proofs.YtijhamllnnilbaaGreatDoor.Ha
namespace Go.Proofs.YtijhamllnnilbaaGreatDoor.Gr
open Go.RowKit Go.Proofs.YtijhamllnnilbaaGreatDoor.Mem Go.Proofs.YtijhamllnnilbaaGreatDoor.Pg Go.Proofs.YtijhamllnnilbaaGreatDoor.Kp Go.Proofs.YtijhamllnnilbaaGreatDoor.Sp Go.Proofs.YtijhamllnnilbaaGreatDoor.Ha
section
variable {w0 w w' : World} {gb mb sb qb c n : Nat} {pg : Nat → Pag} {tk : Int}
theorem GV.base (h : GV w0 w gb mb sb qb c n pg tk) : w0.heap.size ≤ gb ∧ w0.heap.size ≤ mb := ⟨h.ord.1, h.ord.2.1⟩
theorem GV.rk (h : GV w0 w gb mb sb qb c n pg tk) (k : Below w.heap.size w w') : GV w0 w' gb mb sb qb c n pg tk := h.below k
/-- A block of the caller's own is written. -/
theorem GV.own {g : Nat} (h : GV w0 w gb mb sb qb c n pg tk) (k : Keep (fun j => j = g) w w') (hg : gb < g ∧ mb < g) : GV w0 w' gb mb sb qb c n pg tk :=
  h.keep k (fun i hi => by
    have o := h.ord
    subst hi
    exact ⟨by omega, by omega, by omega, by omega, by omega, by omega⟩)
theorem GV.owns {S : Nat → Prop} (h : GV w0 w gb mb sb qb c n pg tk) (k : Keep S w w') (hg : ∀ i, S i → gb < i ∧ mb < i) : GV w0 w' gb mb sb qb c n pg tk :=
  h.keep k (fun i hi => by
    have o := h.ord
    have := hg i hi
    exact ⟨by omega, by omega, by omega, by omega, by omega, by omega⟩)
theorem GV.getR (h : GV w0 w gb mb sb qb c n pg tk) (i : Nat) (hi : i < n) :
    Calls Tryz.prog 64 #[.pointer (some ⟨gb, 0, none⟩), .int .i64 i] w fun e w' => e = .returned (.tuple #[(pg i).v, .int .i64 0]) ∧ GV w0 w' gb mb sb qb c n pg tk ∧ Rk w0.heap.size w w' :=
  (h.get i hi).mono fun _ _ ⟨he, hb⟩ => ⟨he, h.below hb, .of_below hb⟩
end
end Go.Proofs.YtijhamllnnilbaaGreatDoor.Gr
namespace Go.Proofs.YtijhamllnnilbaaGreatDoor.Ha
open Go.RowKit Go.Proofs.YtijhamllnnilbaaGreatDoor.Mem Go.Proofs.YtijhamllnnilbaaGreatDoor.Pg Go.Proofs.YtijhamllnnilbaaGreatDoor.Kp Go.Proofs.YtijhamllnnilbaaGreatDoor.Sp Go.Proofs.YtijhamllnnilbaaGreatDoor.Gr
/-- Numbers, as a row. -/
def natV (l : List Nat) : List Value := l.map fun (m : Nat) => Value.int .i64 (m : Int)
def pcells (p : Pag) : List Value := [.int .i64 p.k, .int .i64 p.d, .int .i64 p.x, .string (str p.l)]
def flatP (l : List Pag) : List Value := l.flatMap pcells
theorem flatP_append (l m : List Pag) : flatP (l ++ m) = flatP l ++ flatP m := by simp [flatP]
theorem flatP_cons (a : Pag) (m : List Pag) : flatP (a :: m) = pcells a ++ flatP m := by simp [flatP]
theorem flatP_at {l : List Pag} {j : Nat} (hj : j < l.length) (r : Nat) (hr : r < 4) : (flatP l)[j * 4 + r]? = (pcells l[j])[r]? := by
  induction l generalizing j with
  | nil => simp at hj
  | cons a l ih =>
    rw [flatP_cons]
    have ha : (pcells a).length = 4 := rfl
    rcases j with _ | j
    · rw [List.getElem?_append_left (by omega)]
      simp
    · rw [List.getElem?_append_right (by omega)]
      have e : (j + 1) * 4 + r - (pcells a).length = j * 4 + r := by omega
      rw [e, ih (by simpa using hj)]
      simp
/-- A bucket as the code holds it: block cb; the group gb; its pages with their numbers. Its own blocks lie from C on. -/
structure Ch (C : Nat) (w : World) (cb gb : Nat) (L : List (Nat × Pag)) : Prop where
  ex : ∃ nv pv, w.heap[cb]? = some (.cells #[.pointer (some ⟨gb, 0, none⟩), nv, pv] 132 (0, 0)) ∧ w.ownsRow C 3 1 nv L.length (natV (L.map (·.1))) ∧ w.ownsRow C 113 4 pv L.length (flatP (L.map (·.2))) ∧ nv.ownBlock ≠ some cb ∧ pv.ownBlock ≠ some cb ∧ (L ≠ [] → nv.ownBlock ≠ pv.ownBlock)
  base : C ≤ cb
section
variable {C B : Nat} {w w' : World} {cb gb mb : Nat} {L : List (Nat × Pag)}
theorem Ch.below (h : Ch C w cb gb L) (k : Below w.heap.size w w') : Ch C w' cb gb L := by
  obtain ⟨nv, pv, h1, h2, h3, h4⟩ := h.ex
  exact ⟨⟨nv, pv, blk_keep h1 k, own_below h2 k, own_below h3 k, h4⟩, h.base⟩
end
end Go.Proofs.YtijhamllnnilbaaGreatDoor.Ha
namespace Go.Proofs.YtijhamllnnilbaaGreatDoor.Ha
open Go.RowKit Go.Proofs.YtijhamllnnilbaaGreatDoor.Mem Go.Proofs.YtijhamllnnilbaaGreatDoor.Pg Go.Proofs.YtijhamllnnilbaaGreatDoor.Kp Go.Proofs.YtijhamllnnilbaaGreatDoor.Sp Go.Proofs.YtijhamllnnilbaaGreatDoor.Gr
set_option linter.unusedSimpArgs false
set_option linter.unusedVariables false
theorem pagsF_get : ∀ (ps : List (Nat × List Cel)) (k d : Int) (j : Nat) (hj : j < ps.length), (pagsF k d ps)[j]? = some (ps[j].1, ⟨if j = 0 then k else 4, if j = 0 then d else 0, (nextF (ps.drop (j + 1)) : Nat), bodyF ps[j].2⟩)
  | [], _, _, j, hj => by simp at hj
  | p :: r, k, d, 0, _ => rfl
  | p :: r, k, d, j + 1, hj => by
    have := pagsF_get r 4 0 j (by simpa using hj)
    simp only [pagsF, List.getElem?_cons_succ, this, List.drop_succ_cons, List.getElem_cons_succ]
    simp
theorem nextF_drop (ps : List (Nat × List Cel)) (j : Nat) (hj : j < ps.length) : nextF (ps.drop j) = ps[j].1 := by
  rw [List.drop_eq_getElem_cons hj]; rfl
theorem nextF_end (ps : List (Nat × List Cel)) : nextF (ps.drop ps.length) = 0 := by rw [List.drop_length]; rfl
/-- What a bucket's pages must be for it to be read. -/
structure Chn (n : Nat) (pg : Nat → Pag) (d : Nat) (b : Lf) : Prop where
  shown : ∀ q, q ∈ b.pags d → pg q.1 = q.2
  fits : ∀ p, p ∈ b.pgs → Fits p.2
  rng : ∀ m, m ∈ b.nums → 2 ≤ m ∧ m < n
  len : b.pgs.length ≤ 64
theorem nodup_lt : ∀ (m : Nat) (l : List Nat), l.Nodup → (∀ i ∈ l, i < m) → l.length ≤ m
  | 0, l, _, h => by
    cases l with
    | nil => simp
    | cons a r => have := h a (by simp); omega
  | m + 1, l, hn, h => by
    by_cases hm : m ∈ l
    · have h1 := nodup_lt m (l.erase m) (hn.erase _) (fun i hi => by
        have h2 := hn.mem_erase_iff.1 hi
        have h3 := h i h2.2
        have h4 := h2.1
        omega)
      rw [List.length_erase_of_mem hm] at h1
      omega
    · have h1 := nodup_lt m l hn (fun i hi => by
        have h3 := h i hi
        have h4 : i ≠ m := fun e => hm (e ▸ hi)
        omega)
      omega
theorem Tb.chn {n D : Nat} {pg : Nat → Pag} {t : Tri} (T : Tb n pg D t) (h64 : n ≤ 64) (i : Nat) : Chn n pg (t.dep i) (t.at' i) := by
  have hm := t.at_mem i
  have hr : ∀ m, m ∈ (t.at' i).nums → 2 ≤ m ∧ m < n := fun m h => T.rng m (numsF_mem hm h)
  refine ⟨T.shown i, T.fits _ hm, hr, ?_⟩
  have hnd : (t.at' i).nums.Nodup := by
    have h1 := T.nums
    obtain ⟨A, B, e⟩ := List.append_of_mem hm
    have h2 : numsF t.leaves = numsF A ++ ((t.at' i).nums ++ numsF B) := by rw [e, numsF_append]; rfl
    rw [h2, List.nodup_append, List.nodup_append] at h1
    exact h1.2.1.1
  have h2 := nodup_lt n (t.at' i).nums hnd (fun m h => (hr m h).2)
  have h3 : (t.at' i).nums.length = (t.at' i).pgs.length := by simp [Lf.nums]
  omega
set_option maxRecDepth 100000 in
set_option maxHeartbeats 2000000 in
theorem open_ok (w0 w : World) (gb mb sb qb c n D : Nat) (pg : Nat → Pag) (tk : Int) (t : Tri) (h : GV w0 w gb mb sb qb c n pg tk) (T : Tb n pg D t) :
    Calls Tryz.prog 50 #[.pointer (some ⟨gb, 0, none⟩)] w fun e w' => ∃ tb, e = .returned (.tuple #[.pointer (some ⟨tb, 0, none⟩), .int .i64 0]) ∧ w.heap.size ≤ tb ∧
      w'.heap[tb]? = some (.cells #[.pointer (some ⟨gb, 0, none⟩), .int .i64 1, .int .i64 D, .int .i64 0, .string (Dr.bdy (entsF D t))] 166 (0, 0)) ∧ GV w0 w' gb mb sb qb c n pg tk ∧ Rk w0.heap.size w w' := by
  have hn0 : 0 < n := by have := T.at_rng 0; omega
  have hget := h.getR 0 hn0
  change Calls _ _ #[_, .int .i64 0] _ _ at hget
  rw [T.dirp] at hget
  have hdep := fun W => Dr.good_depth (T.good h.n64) W
  have hlt := h.lt
  have hrefl := h.base
  obtain ⟨S, hS⟩ : ∃ S, S = Dr.bdy (entsF D t) := ⟨_, rfl⟩
  have hS' : str (Dr.bodyOf (entsF D t)) = S := hS.symm
  simp only [dirF, Pag.v, hS'] at hget
  rw [← hS] at hdep ⊢
  clear hS hS' T h
  go_enter Tryz.func50, Tryz.ntmps50
  go_wp2_with fail
  with_reducible refine hget.mono ?_
  rintro e w1 ⟨rfl, g1, r1⟩
  have p1 := heap_alloc_new w1 (pagO 1 D 0 S)
  have cp := blk_cell p1
  have P1 := Lib.hid p1
  have G1 := Lib.hid (g1.rk (below_al (Below.refl _ w1) (pagO 1 D 0 S)))
  have R1 := Lib.hid (r1.below (below_al (Below.refl _ w1) (pagO 1 D 0 S)))
  have d0 : decide ((D : Int) < 0) = false := decide_eq_false (by omega)
  clear p1 g1 r1 hget
  go_wp2_with fail
  with_reducible refine (hdep _).mono ?_
  rintro e w2 ⟨rfl, hb2⟩
  have p2 := blk_keep P1.out hb2
  have cp2 := blk_cell p2
  have G2 := Lib.hid (G1.out.rk hb2)
  have R2 := Lib.hid (R1.out.below hb2)
  have lp2 := lt_of_block p2
  clear cp p2 hb2 G1 R1 P1
  go_wp2_with fail
  go_ret2
  refine ⟨w2.heap.size, rfl, ?_, ?_, G2.out.rk (below_al (Below.refl _ w2) _), R2.out.below (below_al (Below.refl _ w2) _)⟩
  · exact R2.out.size
  · exact heap_alloc_new w2 _
end Go.Proofs.YtijhamllnnilbaaGreatDoor.Ha
namespace Go.Proofs.YtijhamllnnilbaaGreatDoor.Ha
open Go.RowKit Go.Proofs.YtijhamllnnilbaaGreatDoor.Mem Go.Proofs.YtijhamllnnilbaaGreatDoor.Pg Go.Proofs.YtijhamllnnilbaaGreatDoor.Kp Go.Proofs.YtijhamllnnilbaaGreatDoor.Sp Go.Proofs.YtijhamllnnilbaaGreatDoor.Gr
set_option linter.unusedSimpArgs false
set_option linter.unusedVariables false
abbrev chO (gb : Nat) (nv pv : Value) : Obj := .cells #[.pointer (some ⟨gb, 0, none⟩), nv, pv] 132
abbrev intO (m : Nat) : Obj := .cells #[.int .i64 (m : Int)] 3
/-- What holds of a world while a page is put behind a bucket's others. -/
structure RdS (w0 w W : World) (gb mb sb qb c n : Nat) (pg : Nat → Pag) (tk : Int) (q9 : Nat) (k d x : Int) (S : ByteArray) (nv pv : Value) (j : Nat) (L : List (Nat × Pag)) : Prop where
  chain : W.heap[w.heap.size]? = some (chO gb nv pv)
  page : W.heap[q9]? = some (pagO k d x S)
  q9 : w.heap.size < q9
  g : GV w0 W gb mb sb qb c n pg tk
  r : Rk w0.heap.size w W
  row : W.ownsRow (w.heap.size + 1) 113 4 pv j (flatP ((L.take j).map (·.2)))
  old : gb < w.heap.size ∧ mb < w.heap.size
section
variable {w0 w W W' : World} {gb mb sb qb c n : Nat} {pg : Nat → Pag} {tk : Int} {q9 : Nat} {k d x : Int} {S : ByteArray} {nv pv : Value} {j : Nat} {L : List (Nat × Pag)}
theorem RdS.alloc (h : RdS w0 w W gb mb sb qb c n pg tk q9 k d x S nv pv j L) (o : Obj) : RdS w0 w (W.alloc o) gb mb sb qb c n pg tk q9 k d x S nv pv j L :=
  ⟨hal h.chain, hal h.page, h.q9, h.g.rk (below_al (Below.refl _ _) o), h.r.below (below_al (Below.refl _ _) o), h.row.alloc o, h.old⟩
theorem RdS.drew (h : RdS w0 w W gb mb sb qb c n pg tk q9 k d x S nv pv j L) : RdS w0 w W.drew gb mb sb qb c n pg tk q9 k d x S nv pv j L :=
  ⟨h.chain, h.page, h.q9, h.g.rk (below_dr (Below.refl _ _)), h.r.below (below_dr (Below.refl _ _)), h.row, h.old⟩
theorem RdS.keep {T : Nat → Prop} (h : RdS w0 w W gb mb sb qb c n pg tk q9 k d x S nv pv j L) (q : Keep T W W') (hT : ∀ i, T i → w.heap.size < i ∧ i ≠ q9 ∧ pv.ownBlock ≠ some i) : RdS w0 w W' gb mb sb qb c n pg tk q9 k d x S nv pv j L :=
  ⟨q.blk h.chain (fun e => by have := (hT _ e).1; omega), q.blk h.page (fun e => (hT _ e).2.1 rfl), h.q9, h.g.owns q (fun i hi => by have := (hT i hi).1; have := h.old; omega), h.r.keep q (fun i hi => by have := (hT i hi).1; omega), q.row h.row (fun g hg e => (hT _ e).2.2 hg), h.old⟩
theorem RdS.lt (h : RdS w0 w W gb mb sb qb c n pg tk q9 k d x S nv pv j L) : w.heap.size + 1 ≤ W.heap.size := lt_of_block h.chain
end
theorem info_page' : (Tryz.prog.info? 113).map (fun i => (i.zero, i.size, i.bytes)) = some (some (.agg #[.int .i64 0, .int .i64 0, .int .i64 0, .string ⟨#[]⟩]), 4, 40) := by kernel_rfl
theorem info_int' : (Tryz.prog.info? 3).map (fun i => (i.zero, i.size, i.bytes)) = some (some (.int .i64 0), 1, 8) := by kernel_rfl
theorem natV_step (l : List Nat) (j : Nat) (hj : j < l.length) : natV (l.take (j + 1)) = natV (l.take j) ++ [.int .i64 (l[j] : Nat)] := by
  rw [List.take_succ_eq_append_getElem hj]; unfold natV; rw [List.map_append]; rfl
theorem cells_blk {W : World} {g : Nat} {cs : Array Value} {t : TypeId} (h : W.heap[g]? = some (.cells cs t (0, 0))) : ∀ j u, cs.toList[j]? = some u → W.cell? ((⟨g, 0, none⟩ : Addr).add j) = some u := fun j u hj => by
  have ha : (⟨g, 0, none⟩ : Addr).add j = ⟨g, j, none⟩ := by unfold Addr.add; split <;> simp_all
  rw [ha, blk_cell h j]
  simpa using hj
/-- What stands of a bucket when j of its pages have been read. -/
structure RdL (w0 w W : World) (gb mb sb qb c n : Nat) (pg : Nat → Pag) (tk : Int) (j : Nat) (nv pv : Value) (L : List (Nat × Pag)) : Prop where
  chain : W.heap[w.heap.size]? = some (chO gb nv pv)
  g : GV w0 W gb mb sb qb c n pg tk
  r : Rk w0.heap.size w W
  nrow : W.ownsRow (w.heap.size + 1) 3 1 nv j (natV ((L.take j).map (·.1)))
  prow : W.ownsRow (w.heap.size + 1) 113 4 pv j (flatP ((L.take j).map (·.2)))
  ne : ∀ i, nv.ownBlock = some i → pv.ownBlock ≠ some i
set_option maxRecDepth 100000 in
set_option maxHeartbeats 16000000 in
theorem read_ok (w0 w : World) (gb mb sb qb c n d : Nat) (pg : Nat → Pag) (tk : Int) (b : Lf) (h : GV w0 w gb mb sb qb c n pg tk) (T : Chn n pg d b) :
    Calls Tryz.prog 135 #[.pointer (some ⟨gb, 0, none⟩), .int .i64 b.n] w fun e w' => ∃ cb, e = .returned (.tuple #[.pointer (some ⟨cb, 0, none⟩), .int .i64 0]) ∧
      Ch w.heap.size w' cb gb (b.pags d) ∧ GV w0 w' gb mb sb qb c n pg tk ∧ Rk w0.heap.size w w' := by
  obtain ⟨i0, hif, hz0, hz1, hz2⟩ := info_parts info_int'
  obtain ⟨i1, hig, hy0, hy1, hy2⟩ := info_parts info_page'
  have hlt := h.lt
  have h64 := h.n64
  obtain ⟨ps, hps⟩ : ∃ ps, ps = b.pgs := ⟨_, rfl⟩
  obtain ⟨L, hL⟩ : ∃ L, L = b.pags d := ⟨_, rfl⟩
  have hlen : L.length = ps.length := by rw [hL, hps]; exact pagsF_len _ _ _
  have hpos : 0 < ps.length := by rw [hps]; simp [Lf.pgs]
  have hle : ps.length ≤ 64 := by rw [hps]; exact T.len
  have hbn : b.n = nextF (ps.drop 0) := by rw [hps]; rfl
  have hat : ∀ j (hj : j < ps.length), ∃ cs, Fits cs ∧ 2 ≤ nextF (ps.drop j) ∧ nextF (ps.drop j) < n ∧ L[j]? = some (nextF (ps.drop j), ⟨if j = 0 then 3 else 4, if j = 0 then (d : Int) else 0, (nextF (ps.drop (j + 1)) : Nat), bodyF cs⟩) ∧ pg (nextF (ps.drop j)) = ⟨if j = 0 then 3 else 4, if j = 0 then (d : Int) else 0, (nextF (ps.drop (j + 1)) : Nat), bodyF cs⟩ := fun j hj => by
    have hg := pagsF_get ps 3 (d : Nat) j hj
    rw [← nextF_drop ps j hj] at hg
    have eL : pagsF 3 (d : Nat) ps = L := by rw [hL, Lf.pags, ← hps]
    rw [eL] at hg
    have hLj := hg
    have hr := T.rng (nextF (ps.drop j)) (by
      rw [nextF_drop ps j hj]
      refine List.mem_map.2 ⟨ps[j], ?_, rfl⟩
      have := List.getElem_mem hj
      exact hps ▸ this)
    exact ⟨ps[j].2, T.fits _ (by rw [← hps]; exact List.getElem_mem hj), hr.1, hr.2, hLj, T.shown _ (hL ▸ List.mem_of_getElem? hLj)⟩
  have hend : nextF (ps.drop ps.length) = 0 := nextF_end ps
  rw [hbn, ← hL]
  have hmk : RdL w0 w (w.alloc (chO gb (.slice none 0 0) (.slice none 0 0))) gb mb sb qb c n pg tk 0 (.slice none 0 0) (.slice none 0 0) L :=
    ⟨heap_alloc_new w _, h.rk (below_al (Below.refl _ _) _), .of_below (below_al (Below.refl _ _) _), ⟨rfl, .inl ⟨rfl, rfl⟩⟩, ⟨rfl, .inl ⟨rfl, rfl⟩⟩, fun i hi => by cases hi⟩
  have Hat := Lib.hid hat
  have Hlen := Lib.hid hlen
  have Hend := Lib.hid hend
  have Hold := Lib.hid (And.intro hlt.1 hlt.2.1)
  obtain ⟨nx, hnx⟩ : ∃ nx : Nat → Nat, nx = fun j => nextF (ps.drop j) := ⟨_, rfl⟩
  have hnx' : ∀ j, nextF (ps.drop j) = nx j := fun j => by rw [hnx]
  rw [hnx'] at Hend
  simp only [hnx'] at Hat ⊢
  generalize ps.length = N at *
  clear hL hat hlen hend h T hlt hps hbn hnx hnx'
  have Hm := Lib.hid hmk
  clear hmk
  go_enter Tryz.func135, Tryz.ntmps135
  go_wp2_with fail
  go_loopw [1, 8] (fun a k wr => ∃ (j : Nat) (nv pv : Value), a = .int .i64 (nx j : Int) ∧ k = .int .i64 (if j = 0 then (3 : Int) else 4) ∧ j ≤ N ∧ Hid (RdL w0 w wr gb mb sb qb c n pg tk j nv pv L) ∧ Hid (wr.cell? ⟨w.heap.size, 1, none⟩ = some nv)) (fun _ _ wr => N - (match wr.cell? ⟨w.heap.size, 1, none⟩ with | some (.slice _ m _) => m | _ => 0))
  case atStart => exact ⟨0, _, _, rfl, rfl, Nat.zero_le _, Hm, Lib.hid (blk_cell Hm.out.chain 1)⟩
  case round =>
    clear Hm
    obtain ⟨j, nv, pv, rfl, rfl, hj, hm, hcl⟩ := hrel
    obtain ⟨na, nc, rfl⟩ := own_slice hm.out.nrow
    have cc := blk_cell hm.out.chain
    have lc := lt_of_block hm.out.chain
    by_cases hlt : j < N
    · obtain ⟨cs, hfit, hn2, hnn, hLj, hpg⟩ := Hat.out j hlt
      have hget := hm.out.g.getR (nx j) hnn
      rw [hpg] at hget
      have hbk : ∀ (k d x : Int), k = 3 ∨ k = 4 → Bkt ⟨k, d, x, bodyF cs⟩ cs := fun k d x hk => ⟨hk, rfl, hfit⟩
      have hsz := hfit.room
      have hk34 : (if j = 0 then (3 : Int) else 4) = 3 ∨ (if j = 0 then (3 : Int) else 4) = 4 := by split <;> simp
      obtain ⟨kd, hK⟩ : ∃ kd : Int, kd = if j = 0 then (3 : Int) else 4 := ⟨_, rfl⟩
      obtain ⟨E, hE⟩ : ∃ E : Int, E = if j = 0 then (d : Int) else 0 := ⟨_, rfl⟩
      rw [← hK] at hk34 hget hLj ⊢
      rw [← hE] at hget hLj
      have HL := Lib.hid hLj
      have hroom := fun W => room_any _ cs (hbk kd E (nx (j + 1) : Nat) hk34) W
      have hcells := fun W => bCells_ok _ cs (hbk kd E (nx (j + 1) : Nat) hk34) W
      have Hlen0 : Hid (239 - szs cs = 0 → 0 < cs.length) := Lib.hid (fun h0 => by
        rcases cs with _ | ⟨a, r⟩
        · simp [szs] at h0
        · simp)
      simp only [Pag.v] at hget hroom hcells
      obtain ⟨S, hS⟩ : ∃ S, S = str (bodyF cs) := ⟨_, rfl⟩
      rw [← hS] at hget hroom hcells
      have HS := Lib.hid hS
      generalize 239 - szs cs = R at hroom Hlen0
      have hj64 : j < 64 := by omega
      have hne0 : (nx j : Int) ≠ 0 := by omega
      have d3 : decide ((64 : Int) ≤ (j : Int)) = false := decide_eq_false (by omega)
      have d4 : ((nx j : Int) != 0) = true := by simpa using hne0
      have hcond : ((j : Int) == 0) = true ∨ ((j : Int) == 0) = false := by cases ((j : Int) == 0) <;> simp
      have X1 := Lib.hid (show nx (j + 1) = nx (j + 1) from rfl)
      clear hfit hsz hbk hLj hpg hS hk34 hj64
      clear hcond hK hE
      go_upto_region 4 with fail
      go_cut [25] (fun v25 V => v25 = .bool true ∧ V = wr)
      case first =>
        by_cases hj0 : j = 0
        · subst hj0
          go_wp2_with fail
          go_meet
          exact ⟨rfl, rfl⟩
        · have d1 : ((j : Int) == 0) = false := by simp; omega
          have d2 : decide (j = 0) = false := by simpa using hj0
          go_wp2_with fail
          go_meet
          exact ⟨rfl, rfl⟩
      case rest =>
        obtain ⟨rfl, rfl⟩ := hcut
        go_wp2_with fail
        with_reducible refine hget.mono ?_
        rintro e w1 ⟨rfl, g1, r1⟩
        have M1 : Hid (RdL w0 w w1 gb mb sb qb c n pg tk j (.slice na j nc) pv L) := Lib.hid ⟨r1.blk hm.out.chain (by have := hm.out.g.base; have := Hold.out; omega), g1, hm.out.r.trans r1, r1.row hm.out.nrow (by have := hm.out.g.base; have := Hold.out; omega), r1.row hm.out.prow (by have := hm.out.g.base; have := Hold.out; omega), hm.out.ne⟩
        clear hget g1 r1 cc lc hm
        have p1 := heap_alloc_new w1 (pagO kd E (nx (j + 1) : Nat) S)
        have M2 : Hid (RdL w0 w (w1.alloc (pagO kd E (nx (j + 1) : Nat) S)) gb mb sb qb c n pg tk j (.slice na j nc) pv L) := Lib.hid ⟨hal M1.out.chain, M1.out.g.rk (below_al (Below.refl _ _) _), M1.out.r.below (below_al (Below.refl _ _) _), M1.out.nrow.alloc _, M1.out.prow.alloc _, M1.out.ne⟩
        have cp := blk_cell p1
        have cc := blk_cell M2.out.chain
        have lc := lt_of_block M2.out.chain
        have P1 := Lib.hid p1
        have Y1 : Hid ((Value.slice na j nc).ownBlock ≠ some w1.heap.size ∧ pv.ownBlock ≠ some w1.heap.size) := Lib.hid ⟨fun e => by have := own_lt M1.out.nrow _ e; omega, fun e => by have := own_lt M1.out.prow _ e; omega⟩
        have Hq9 : Hid (w.heap.size < w1.heap.size) := Lib.hid (lt_of_block M1.out.chain)
        clear p1 M1
        go_upto_region 8 with fail
        go_cut [57] (fun v57 V => v57 = .bool false ∧ Hid (RdL w0 w V gb mb sb qb c n pg tk j (.slice na j nc) pv L) ∧ Hid (V.heap[w1.heap.size]? = some (pagO kd E (nx (j + 1) : Nat) S)))
        case first =>
          by_cases hR : R = 0
          · have hcl0 := Hlen0.out hR
            have e2'' : ¬ cs.length = 0 := by omega
            have e2 : ((cs.length : Int) == 0) = false := beq_eq_false_iff_ne.2 (by omega)
            have e2' : decide (cs.length = 0) = false := decide_eq_false e2''
            subst hR
            go_wp2_with fail
            with_reducible refine (hroom _).mono ?_
            rintro e w2 ⟨rfl, hb2⟩
            have M3 : Hid (RdL w0 w w2 gb mb sb qb c n pg tk j (.slice na j nc) pv L) := Lib.hid ⟨blk_keep M2.out.chain hb2, M2.out.g.rk hb2, M2.out.r.below hb2, own_below M2.out.nrow hb2, own_below M2.out.prow hb2, M2.out.ne⟩
            have P2 := Lib.hid (blk_keep P1.out hb2)
            clear cp cc lc hb2 M2 P1 hroom
            have cp := blk_cell P2.out
            have lp := lt_of_block P2.out
            have cc := blk_cell M3.out.chain
            have lc := lt_of_block M3.out.chain
            go_wp2_with fail
            with_reducible refine (hcells _).mono ?_
            rintro e w3 ⟨A3, cap3, rfl, _, hb3⟩
            have M4 : Hid (RdL w0 w w3 gb mb sb qb c n pg tk j (.slice na j nc) pv L) := Lib.hid ⟨blk_keep M3.out.chain hb3, M3.out.g.rk hb3, M3.out.r.below hb3, own_below M3.out.nrow hb3, own_below M3.out.prow hb3, M3.out.ne⟩
            have P4 := Lib.hid (blk_keep P2.out hb3)
            go_wp2_with fail
            go_meet
            exact ⟨rfl, M4, P4⟩
          · have e1 : ((R : Int) == 0) = false := by simp; omega
            have e2 : decide (R = 0) = false := by simpa using hR
            go_wp2_with fail
            with_reducible refine (hroom _).mono ?_
            rintro e w3 ⟨rfl, hb3⟩
            have M4 : Hid (RdL w0 w w3 gb mb sb qb c n pg tk j (.slice na j nc) pv L) := Lib.hid ⟨blk_keep M2.out.chain hb3, M2.out.g.rk hb3, M2.out.r.below hb3, own_below M2.out.nrow hb3, own_below M2.out.prow hb3, M2.out.ne⟩
            have P4 := Lib.hid (blk_keep P1.out hb3)
            go_wp2_with fail
            go_meet
            exact ⟨rfl, M4, P4⟩
        case rest =>
          obtain ⟨rfl, M4, P4⟩ := hcut
          clear cp cc lc M2 P1 hroom hcells
          have cp := blk_cell P4.out
          have lp := lt_of_block P4.out
          have cc := blk_cell M4.out.chain
          have lc := lt_of_block M4.out.chain
          have D4 : Hid (RdS w0 w wc.drew gb mb sb qb c n pg tk w1.heap.size kd E (nx (j + 1) : Nat) S (.slice na j nc) pv j L) := Lib.hid (RdS.drew ⟨M4.out.chain, P4.out, Hq9.out, M4.out.g, M4.out.r, M4.out.prow, Hold.out⟩)
          have N4 : Hid (wc.drew.ownsRow (w.heap.size + 1) 3 1 (.slice na j nc) j (natV ((L.take j).map (·.1)))) := Lib.hid M4.out.nrow
          have X4 := Lib.hid M4.out.ne
          have Yn : Hid (∀ i, (Value.slice na j nc).ownBlock = some i → i < wc.heap.size ∧ i ≠ w1.heap.size) := Lib.hid (fun i hi => ⟨own_lt M4.out.nrow i hi, fun e => Y1.out.1 (e ▸ hi)⟩)
          have Yp : Hid (∀ i, pv.ownBlock = some i → i < wc.heap.size ∧ i ≠ w1.heap.size) := Lib.hid (fun i hi => ⟨own_lt M4.out.prow i hi, fun e => Y1.out.2 (e ▸ hi)⟩)
          clear Y1
          go_wp2_with fail
          clear cp lp cc lc
          refine Ra.wp_region_A (S := (fun W => RdS w0 w W gb mb sb qb c n pg tk w1.heap.size kd E (nx (j + 1) : Nat) S (.slice na j nc) pv j L)) [5, 7, 8, 12, 13, 14] (by kernel_rfl) (D4.out) (fun hHeld => ?_)
          refine Ra.WT 0 ?_ ?_ ?_
          rotate_left
          · intro wq hSw
            go_simp
            try with_reducible rfl
          try simp only [Act.put, List.getElem_toArray, List.getElem_cons_succ, List.getElem_cons_zero, List.setIfInBounds_toArray, List.set_cons_zero, List.set_cons_succ]
          refine Ra.WT 1 ?_ ?_ ?_
          rotate_left
          · intro wq hSw
            go_simp
            try with_reducible rfl
          try simp only [Act.put, List.getElem_toArray, List.getElem_cons_succ, List.getElem_cons_zero, List.setIfInBounds_toArray, List.set_cons_zero, List.set_cons_succ]
          refine Ra.WT 2 ?_ ?_ ?_
          rotate_left
          · intro wq hSw
            go_simp
            try with_reducible rfl
          try simp only [Act.put, List.getElem_toArray, List.getElem_cons_succ, List.getElem_cons_zero, List.setIfInBounds_toArray, List.set_cons_zero, List.set_cons_succ]
          refine Ra.WT 3 ?_ ?_ ?_
          rotate_left
          · intro wq hSw
            go_simp
            try with_reducible rfl
          try simp only [Act.put, List.getElem_toArray, List.getElem_cons_succ, List.getElem_cons_zero, List.setIfInBounds_toArray, List.set_cons_zero, List.set_cons_succ]
          refine Ra.WT 4 ?_ ?_ ?_
          rotate_left
          · intro wq hSw
            go_simp
            try with_reducible rfl
          try simp only [Act.put, List.getElem_toArray, List.getElem_cons_succ, List.getElem_cons_zero, List.setIfInBounds_toArray, List.set_cons_zero, List.set_cons_succ]
          refine Ra.WT 6 ?_ ?_ ?_
          rotate_left
          · intro wq hSw
            go_simp
            try with_reducible rfl
          try simp only [Act.put, List.getElem_toArray, List.getElem_cons_succ, List.getElem_cons_zero, List.setIfInBounds_toArray, List.set_cons_zero, List.set_cons_succ]
          refine Ra.WT 9 ?_ ?_ ?_
          rotate_left
          · intro wq hSw
            go_simp
            try with_reducible rfl
          try simp only [Act.put, List.getElem_toArray, List.getElem_cons_succ, List.getElem_cons_zero, List.setIfInBounds_toArray, List.set_cons_zero, List.set_cons_succ]
          refine Ra.WT 10 ?_ ?_ ?_
          rotate_left
          · intro wq hSw
            go_simp
            try with_reducible rfl
          try simp only [Act.put, List.getElem_toArray, List.getElem_cons_succ, List.getElem_cons_zero, List.setIfInBounds_toArray, List.set_cons_zero, List.set_cons_succ]
          refine Ra.WT 11 ?_ ?_ ?_
          rotate_left
          · intro wq hSw
            go_simp
            try with_reducible rfl
          try simp only [Act.put, List.getElem_toArray, List.getElem_cons_succ, List.getElem_cons_zero, List.setIfInBounds_toArray, List.set_cons_zero, List.set_cons_succ]
          refine Ra.WA 5 ?_ ?_ hHeld ?_
          rotate_left
          · intro wq hSw
            have hSc := blk_cell hSw.chain; have hSl := lt_of_block hSw.chain; have hSp := blk_cell hSw.page; have hSq := lt_of_block hSw.page
            go_simp
            try with_reducible rfl
          try simp only [Act.put, List.getElem_toArray, List.getElem_cons_succ, List.getElem_cons_zero, List.setIfInBounds_toArray, List.set_cons_zero, List.set_cons_succ]
          refine Ra.WA 12 ?_ ?_ hHeld ?_
          rotate_left
          · intro wq hSw
            have hSc := blk_cell hSw.chain; have hSl := lt_of_block hSw.chain; have hSp := blk_cell hSw.page; have hSq := lt_of_block hSw.page
            go_simp
            try with_reducible rfl
          try simp only [Act.put, List.getElem_toArray, List.getElem_cons_succ, List.getElem_cons_zero, List.setIfInBounds_toArray, List.set_cons_zero, List.set_cons_succ]
          refine Ra.WA 13 ?_ ?_ hHeld ?_
          rotate_left
          · intro wq hSw
            have hSc := blk_cell hSw.chain; have hSl := lt_of_block hSw.chain; have hSp := blk_cell hSw.page; have hSq := lt_of_block hSw.page
            go_simp
            try with_reducible rfl
          try simp only [Act.put, List.getElem_toArray, List.getElem_cons_succ, List.getElem_cons_zero, List.setIfInBounds_toArray, List.set_cons_zero, List.set_cons_succ]
          refine Ra.wpA_ready (rs := [7, 14]) (by kernel_rfl) (by simp) ?_
          refine Ra.AllReadyA.cons rfl (fun K hK => ?_) (Ra.AllReadyA.cons rfl (fun K hK => ?_) Ra.AllReadyA.nil)
          · rw [if_pos (by kernel_rfl)]
            go_simp
            skip
            refine hK.out _ _ (hHeld.alloc _) (fun hHeld2 => ?_)
            clear hK K
            try clear hHeld
            have hHeld := hHeld2
            try clear hHeld2
            refine Ra.wpA_ready (rs := [8, 14]) (by kernel_rfl) (by simp) ?_
            refine Ra.AllReadyA.cons rfl (fun K hK => ?_) (Ra.AllReadyA.cons rfl (fun K hK => ?_) Ra.AllReadyA.nil)
            · refine step_append_lies _ rfl _ _ _ rfl (w.heap.size + 1) 3 i0 (.int .i64 0) 1 8 Tryz.underlying45 hif hz0 hz1 hz2 rfl (by decide) (.slice na j nc) j _ rfl (N4.out.alloc _) ⟨wc.heap.size, 0, none⟩ 1 1 [.int .i64 (nx j : Nat)] rfl rfl (cells_blk (heap_alloc_new wc.drew (intO (nx j)))) (by simp [Value.oneCell']) (by omega) (by unfold maxLen; omega) (by omega) hHeld.lt _ rfl ?_
              intro g1 c1 w5 ho1 hg1 hat1 hl1
              have k8 := Keep.grown (S := fun k => (Value.slice na j nc).ownBlock = some k) hg1 (fun j h => h)
              have HO5 := Lib.hid ho1
              have Hpg : Hid (pv.ownBlock ≠ some g1) := Lib.hid (fun e => by (have hpl := (Yp.out _ e).1; rcases hat1 with h1 | h1; exact X4.out g1 h1 e; (have h2 := h1; simp at h2; omega)))
              clear ho1 hat1 hg1
              refine hK.out _ _ (hHeld.keep k8 (fun i hi => ⟨own_base N4.out i hi, (Yn.out i hi).2, X4.out i hi⟩)) (fun hHeld2 => ?_)
              clear hK K
              try clear hHeld
              have hHeld := hHeld2
              try clear hHeld2
              refine Ra.wpA_ready (rs := [14]) (by kernel_rfl) (by simp) ?_
              refine Ra.AllReadyA.cons rfl (fun K hK => ?_) Ra.AllReadyA.nil
              rw [if_pos (by kernel_rfl)]
              go_simp
              skip
              have HB := Lib.hid (heap_alloc_new w5 (pagO kd E (nx (j + 1) : Nat) S))
              have HO := Lib.hid (HO5.out.alloc (pagO kd E (nx (j + 1) : Nat) S))
              clear HO5
              refine hK.out _ _ (hHeld.alloc _) (fun hHeld2 => ?_)
              clear hK K
              try clear hHeld
              have hHeld := hHeld2
              try clear hHeld2
              refine Ra.wpA_ready (rs := [15]) (by kernel_rfl) (by simp) ?_
              refine Ra.AllReadyA.late rfl rfl (fun K hK => ?_) Ra.AllReadyA.nil
              refine step_append_lies _ rfl _ _ _ rfl (w.heap.size + 1) 113 i1 (.agg #[.int .i64 0, .int .i64 0, .int .i64 0, .string ⟨#[]⟩]) 4 40 Tryz.underlying68 hig hy0 hy1 hy2 rfl (by decide) pv j _ rfl hHeld.row _ 1 1 [.int .i64 kd, .int .i64 E, .int .i64 (nx (j + 1) : Nat), .string S] rfl rfl (cells_blk HB.out) (by intro u hu; simp at hu; rcases hu with rfl | rfl | rfl | rfl <;> rfl) (by omega) (by unfold maxLen; omega) (by omega) hHeld.lt _ rfl ?_
              intro g2 c2 w6 ho2 hg2 hat2 hl2
              have k9 := Keep.grown (S := fun k => pv.ownBlock = some k) hg2 (fun j h => h)
              have HO6 := Lib.hid (k9.row HO.out (fun g hg e => by (injection hg with hg; subst hg; exact Hpg.out e)))
              have HP6 := Lib.hid ho2
              have Hg12 : Hid (g1 ≠ g2) := Lib.hid (fun e => by (subst e; rcases hat2 with h1 | h1; exact Hpg.out h1; (have h2 := h1; have h3 := own_lt HO.out g1 rfl; (try simp only [World.size_alloc] at h2 h3); omega)))
              have ch6 := k9.blk hHeld.chain (fun e => by have := own_base hHeld.row _ e; omega)
              have PG6 := Lib.hid (k9.blk hHeld.page (fun e => (Yp.out _ e).2 rfl))
              have G6 := Lib.hid (hHeld.g.owns k9 (fun i hi => by have := own_base hHeld.row _ hi; have := hHeld.old; omega))
              have R6 := Lib.hid (hHeld.r.keep k9 (fun i hi => by have := own_base hHeld.row _ hi; omega))
              have cc6 := blk_cell ch6
              have fc6 := blk_free ch6
              have lc6 := lt_of_block ch6
              have ch7 := heap_setCell_same w6 w.heap.size 1 _ _ (.slice (some ⟨g1, 0, none⟩) (j + 1) c1) ch6
              have cc7 := blk_cell ch7
              have fc7 := blk_free ch7
              clear ho2 hg2 hat2 hHeld k9 HO HB Hpg
              refine hK.out _ _ (trivial) (fun hHeld2 => ?_)
              clear hK K
              try clear hHeld
              have hHeld := hHeld2
              try clear hHeld2
              refine Ra.WT 16 ?_ ?_ ?_
              rotate_left
              · intro wq hSw
                go_simp
                try with_reducible rfl
              try simp only [Act.put, List.getElem_toArray, List.getElem_cons_succ, List.getElem_cons_zero, List.setIfInBounds_toArray, List.set_cons_zero, List.set_cons_succ]
              refine Ra.WT 17 ?_ ?_ ?_
              rotate_left
              · intro wq hSw
                go_simp
                try with_reducible rfl
              try simp only [Act.put, List.getElem_toArray, List.getElem_cons_succ, List.getElem_cons_zero, List.setIfInBounds_toArray, List.set_cons_zero, List.set_cons_succ]
              refine Ra.wpA_ready (rs := [18]) (by kernel_rfl) (by simp) ?_
              refine Ra.AllReadyA.late rfl rfl (fun K hK => ?_) Ra.AllReadyA.nil
              rw [if_pos (by kernel_rfl)]
              go_simp
              skip
              refine hK.out _ _ (trivial) (fun hHeld2 => ?_)
              clear hK K
              try clear hHeld
              have hHeld := hHeld2
              try clear hHeld2
              refine Ra.WT 19 ?_ ?_ ?_
              rotate_left
              · intro wq hSw
                go_simp
                try with_reducible rfl
              try simp only [Act.put, List.getElem_toArray, List.getElem_cons_succ, List.getElem_cons_zero, List.setIfInBounds_toArray, List.set_cons_zero, List.set_cons_succ]
              refine Ra.WT 20 ?_ ?_ ?_
              rotate_left
              · intro wq hSw
                go_simp
                try with_reducible rfl
              try simp only [Act.put, List.getElem_toArray, List.getElem_cons_succ, List.getElem_cons_zero, List.setIfInBounds_toArray, List.set_cons_zero, List.set_cons_succ]
              refine Ra.wpA_ready (rs := [21]) (by kernel_rfl) (by simp) ?_
              refine Ra.AllReadyA.late rfl rfl (fun K hK => ?_) Ra.AllReadyA.nil
              rw [if_pos (by kernel_rfl)]
              go_simp
              skip
              refine hK.out _ _ (trivial) (fun hHeld2 => ?_)
              clear hK K
              try clear hHeld
              have hHeld := hHeld2
              try clear hHeld2
              refine Ra.wpA_done (by kernel_rfl) ?_ _
              have ch8 := heap_setCell_same _ w.heap.size 2 _ _ (.slice (some ⟨g2, 0, none⟩) (j + 1) c2) ch7
              obtain ⟨WF, hWF⟩ : ∃ WF, WF = (w6.setCell ⟨w.heap.size, 1, none⟩ (.slice (some ⟨g1, 0, none⟩) (j + 1) c1)).setCell ⟨w.heap.size, 2, none⟩ (.slice (some ⟨g2, 0, none⟩) (j + 1) c2) := ⟨_, rfl⟩
              have kF : Keep (fun j => j = w.heap.size) w6 WF := hWF ▸ Keep.setCell (S := fun j => j = w.heap.size) (Keep.setCell (S := fun j => j = w.heap.size) (Keep.refl _ w6) (.inl rfl) _) (.inl rfl) _
              have hT : L.take (j + 1) = L.take j ++ [(nx j, ⟨kd, E, (nx (j + 1) : Nat), bodyF cs⟩)] := by (first | (rw [List.take_add_one, HL.out]; rfl) | (have h9 := @List.take_add_one _ L 0; rw [HL.out] at h9; exact h9))
              have o1 := HO6.out
              have o2 := HP6.out
              rw [show natV ((L.take j).map (·.1)) ++ [Value.int .i64 (nx j : Nat)] = natV ((L.take (j + 1)).map (·.1)) from by rw [hT, List.map_append]; unfold natV; rw [List.map_append]; rfl] at o1
              rw [show flatP ((L.take j).map (·.2)) ++ [Value.int .i64 kd, .int .i64 E, .int .i64 (nx (j + 1) : Nat), .string S] = flatP ((L.take (j + 1)).map (·.2)) from by rw [hT, List.map_append, flatP_append, HS.out]; simp [flatP, pcells]] at o2
              have MF : Hid (RdL w0 w WF gb mb sb qb c n pg tk (j + 1) (.slice (some ⟨g1, 0, none⟩) (j + 1) c1) (.slice (some ⟨g2, 0, none⟩) (j + 1) c2) L) := Lib.hid ⟨hWF ▸ (by simpa using ch8), G6.out.own kF ⟨Hold.out.1, Hold.out.2⟩, R6.out.keep kF (fun i hi => Nat.le_of_eq hi.symm), kF.row o1 (fun g hg e => by (have := own_base o1 g hg; omega)), kF.row o2 (fun g hg e => by (have := own_base o2 g hg; omega)), fun i hi e => by (injection hi with hi; injection e with e; exact Hg12.out (hi.trans e.symm))⟩
              have PGF := kF.blk PG6.out (by have := Hq9.out; omega)
              have cpF := blk_cell PGF
              have lpF := lt_of_block PGF
              have Hc1 := Lib.hid (blk_cell MF.out.chain 1)
              rw [← hWF]
              clear hWF ch6 ch7 ch8 cc6 cc7 fc6 fc7 lc6 kF PGF o1 o2 hT HO6 HP6 PG6 G6 R6 k8 D4 N4 X4 Yn Yp M4 P4
              go_wp2_with fail
              refine ⟨⟨(j + 1), _, _, rfl, by rw [if_neg (by omega)], by omega, MF, Hc1⟩, ?_⟩
              rw [show WF.cell? ⟨w.heap.size, 1, none⟩ = some (.slice (some ⟨g1, 0, none⟩) (j + 1) c1) from Hc1.out, hcl.out]
              exact Nat.sub_lt_sub_left hlt (Nat.lt_succ_self _)
            · rw [if_pos (by kernel_rfl)]
              go_simp
              skip
              refine hK.out _ _ (hHeld.alloc _) (fun hHeld2 => ?_)
              clear hK K
              try clear hHeld
              have hHeld := hHeld2
              try clear hHeld2
              refine Ra.wpA_ready (rs := [8]) (by kernel_rfl) (by simp) ?_
              refine Ra.AllReadyA.cons rfl (fun K hK => ?_) Ra.AllReadyA.nil
              refine step_append_lies _ rfl _ _ _ rfl (w.heap.size + 1) 3 i0 (.int .i64 0) 1 8 Tryz.underlying45 hif hz0 hz1 hz2 rfl (by decide) (.slice na j nc) j _ rfl ((N4.out.alloc _).alloc _) ⟨wc.heap.size, 0, none⟩ 1 1 [.int .i64 (nx j : Nat)] rfl rfl (cells_blk (blk_a1 wc.drew #[.int .i64 (nx j : Nat)] 3 (pagO kd E (nx (j + 1) : Nat) S))) (by simp [Value.oneCell']) (by omega) (by unfold maxLen; omega) (by omega) hHeld.lt _ rfl ?_
              intro g1 c1 w5 ho1 hg1 hat1 hl1
              have k8 := Keep.grown (S := fun k => (Value.slice na j nc).ownBlock = some k) hg1 (fun j h => h)
              have HO := Lib.hid ho1
              have HB := Lib.hid (k8.blk (blk_a2 wc.drew (intO (nx j)) #[.int .i64 kd, .int .i64 E, .int .i64 (nx (j + 1) : Nat), .string S] 113) (fun e => absurd (Yn.out _ e).1 (by show ¬ (wc.heap.size + 1 < wc.heap.size); omega)))
              have Hpg : Hid (pv.ownBlock ≠ some g1) := Lib.hid (fun e => by (have hpl := (Yp.out _ e).1; rcases hat1 with h1 | h1; exact X4.out g1 h1 e; (have h2 := h1; simp at h2; omega)))
              clear ho1 hat1 hg1
              refine hK.out _ _ (hHeld.keep k8 (fun i hi => ⟨own_base N4.out i hi, (Yn.out i hi).2, X4.out i hi⟩)) (fun hHeld2 => ?_)
              clear hK K
              try clear hHeld
              have hHeld := hHeld2
              try clear hHeld2
              refine Ra.wpA_ready (rs := [15]) (by kernel_rfl) (by simp) ?_
              refine Ra.AllReadyA.late rfl rfl (fun K hK => ?_) Ra.AllReadyA.nil
              refine step_append_lies _ rfl _ _ _ rfl (w.heap.size + 1) 113 i1 (.agg #[.int .i64 0, .int .i64 0, .int .i64 0, .string ⟨#[]⟩]) 4 40 Tryz.underlying68 hig hy0 hy1 hy2 rfl (by decide) pv j _ rfl hHeld.row _ 1 1 [.int .i64 kd, .int .i64 E, .int .i64 (nx (j + 1) : Nat), .string S] rfl rfl (cells_blk HB.out) (by intro u hu; simp at hu; rcases hu with rfl | rfl | rfl | rfl <;> rfl) (by omega) (by unfold maxLen; omega) (by omega) hHeld.lt _ rfl ?_
              intro g2 c2 w6 ho2 hg2 hat2 hl2
              have k9 := Keep.grown (S := fun k => pv.ownBlock = some k) hg2 (fun j h => h)
              have HO6 := Lib.hid (k9.row HO.out (fun g hg e => by (injection hg with hg; subst hg; exact Hpg.out e)))
              have HP6 := Lib.hid ho2
              have Hg12 : Hid (g1 ≠ g2) := Lib.hid (fun e => by (subst e; rcases hat2 with h1 | h1; exact Hpg.out h1; (have h2 := h1; have h3 := own_lt HO.out g1 rfl; (try simp only [World.size_alloc] at h2 h3); omega)))
              have ch6 := k9.blk hHeld.chain (fun e => by have := own_base hHeld.row _ e; omega)
              have PG6 := Lib.hid (k9.blk hHeld.page (fun e => (Yp.out _ e).2 rfl))
              have G6 := Lib.hid (hHeld.g.owns k9 (fun i hi => by have := own_base hHeld.row _ hi; have := hHeld.old; omega))
              have R6 := Lib.hid (hHeld.r.keep k9 (fun i hi => by have := own_base hHeld.row _ hi; omega))
              have cc6 := blk_cell ch6
              have fc6 := blk_free ch6
              have lc6 := lt_of_block ch6
              have ch7 := heap_setCell_same w6 w.heap.size 1 _ _ (.slice (some ⟨g1, 0, none⟩) (j + 1) c1) ch6
              have cc7 := blk_cell ch7
              have fc7 := blk_free ch7
              clear ho2 hg2 hat2 hHeld k9 HO HB Hpg
              refine hK.out _ _ (trivial) (fun hHeld2 => ?_)
              clear hK K
              try clear hHeld
              have hHeld := hHeld2
              try clear hHeld2
              refine Ra.WT 16 ?_ ?_ ?_
              rotate_left
              · intro wq hSw
                go_simp
                try with_reducible rfl
              try simp only [Act.put, List.getElem_toArray, List.getElem_cons_succ, List.getElem_cons_zero, List.setIfInBounds_toArray, List.set_cons_zero, List.set_cons_succ]
              refine Ra.WT 17 ?_ ?_ ?_
              rotate_left
              · intro wq hSw
                go_simp
                try with_reducible rfl
              try simp only [Act.put, List.getElem_toArray, List.getElem_cons_succ, List.getElem_cons_zero, List.setIfInBounds_toArray, List.set_cons_zero, List.set_cons_succ]
              refine Ra.wpA_ready (rs := [18]) (by kernel_rfl) (by simp) ?_
              refine Ra.AllReadyA.late rfl rfl (fun K hK => ?_) Ra.AllReadyA.nil
              rw [if_pos (by kernel_rfl)]
              go_simp
              skip
              refine hK.out _ _ (trivial) (fun hHeld2 => ?_)
              clear hK K
              try clear hHeld
              have hHeld := hHeld2
              try clear hHeld2
              refine Ra.WT 19 ?_ ?_ ?_
              rotate_left
              · intro wq hSw
                go_simp
                try with_reducible rfl
              try simp only [Act.put, List.getElem_toArray, List.getElem_cons_succ, List.getElem_cons_zero, List.setIfInBounds_toArray, List.set_cons_zero, List.set_cons_succ]
              refine Ra.WT 20 ?_ ?_ ?_
              rotate_left
              · intro wq hSw
                go_simp
                try with_reducible rfl
              try simp only [Act.put, List.getElem_toArray, List.getElem_cons_succ, List.getElem_cons_zero, List.setIfInBounds_toArray, List.set_cons_zero, List.set_cons_succ]
              refine Ra.wpA_ready (rs := [21]) (by kernel_rfl) (by simp) ?_
              refine Ra.AllReadyA.late rfl rfl (fun K hK => ?_) Ra.AllReadyA.nil
              rw [if_pos (by kernel_rfl)]
              go_simp
              skip
              refine hK.out _ _ (trivial) (fun hHeld2 => ?_)
              clear hK K
              try clear hHeld
              have hHeld := hHeld2
              try clear hHeld2
              refine Ra.wpA_done (by kernel_rfl) ?_ _
              have ch8 := heap_setCell_same _ w.heap.size 2 _ _ (.slice (some ⟨g2, 0, none⟩) (j + 1) c2) ch7
              obtain ⟨WF, hWF⟩ : ∃ WF, WF = (w6.setCell ⟨w.heap.size, 1, none⟩ (.slice (some ⟨g1, 0, none⟩) (j + 1) c1)).setCell ⟨w.heap.size, 2, none⟩ (.slice (some ⟨g2, 0, none⟩) (j + 1) c2) := ⟨_, rfl⟩
              have kF : Keep (fun j => j = w.heap.size) w6 WF := hWF ▸ Keep.setCell (S := fun j => j = w.heap.size) (Keep.setCell (S := fun j => j = w.heap.size) (Keep.refl _ w6) (.inl rfl) _) (.inl rfl) _
              have hT : L.take (j + 1) = L.take j ++ [(nx j, ⟨kd, E, (nx (j + 1) : Nat), bodyF cs⟩)] := by (first | (rw [List.take_add_one, HL.out]; rfl) | (have h9 := @List.take_add_one _ L 0; rw [HL.out] at h9; exact h9))
              have o1 := HO6.out
              have o2 := HP6.out
              rw [show natV ((L.take j).map (·.1)) ++ [Value.int .i64 (nx j : Nat)] = natV ((L.take (j + 1)).map (·.1)) from by rw [hT, List.map_append]; unfold natV; rw [List.map_append]; rfl] at o1
              rw [show flatP ((L.take j).map (·.2)) ++ [Value.int .i64 kd, .int .i64 E, .int .i64 (nx (j + 1) : Nat), .string S] = flatP ((L.take (j + 1)).map (·.2)) from by rw [hT, List.map_append, flatP_append, HS.out]; simp [flatP, pcells]] at o2
              have MF : Hid (RdL w0 w WF gb mb sb qb c n pg tk (j + 1) (.slice (some ⟨g1, 0, none⟩) (j + 1) c1) (.slice (some ⟨g2, 0, none⟩) (j + 1) c2) L) := Lib.hid ⟨hWF ▸ (by simpa using ch8), G6.out.own kF ⟨Hold.out.1, Hold.out.2⟩, R6.out.keep kF (fun i hi => Nat.le_of_eq hi.symm), kF.row o1 (fun g hg e => by (have := own_base o1 g hg; omega)), kF.row o2 (fun g hg e => by (have := own_base o2 g hg; omega)), fun i hi e => by (injection hi with hi; injection e with e; exact Hg12.out (hi.trans e.symm))⟩
              have PGF := kF.blk PG6.out (by have := Hq9.out; omega)
              have cpF := blk_cell PGF
              have lpF := lt_of_block PGF
              have Hc1 := Lib.hid (blk_cell MF.out.chain 1)
              rw [← hWF]
              clear hWF ch6 ch7 ch8 cc6 cc7 fc6 fc7 lc6 kF PGF o1 o2 hT HO6 HP6 PG6 G6 R6 k8 D4 N4 X4 Yn Yp M4 P4
              go_wp2_with fail
              refine ⟨⟨(j + 1), _, _, rfl, by rw [if_neg (by omega)], by omega, MF, Hc1⟩, ?_⟩
              rw [show WF.cell? ⟨w.heap.size, 1, none⟩ = some (.slice (some ⟨g1, 0, none⟩) (j + 1) c1) from Hc1.out, hcl.out]
              exact Nat.sub_lt_sub_left hlt (Nat.lt_succ_self _)
          · rw [if_pos (by kernel_rfl)]
            go_simp
            skip
            refine hK.out _ _ (hHeld.alloc _) (fun hHeld2 => ?_)
            clear hK K
            try clear hHeld
            have hHeld := hHeld2
            try clear hHeld2
            refine Ra.wpA_ready (rs := [7]) (by kernel_rfl) (by simp) ?_
            refine Ra.AllReadyA.cons rfl (fun K hK => ?_) Ra.AllReadyA.nil
            rw [if_pos (by kernel_rfl)]
            go_simp
            skip
            refine hK.out _ _ (hHeld.alloc _) (fun hHeld2 => ?_)
            clear hK K
            try clear hHeld
            have hHeld := hHeld2
            try clear hHeld2
            refine Ra.wpA_ready (rs := [8]) (by kernel_rfl) (by simp) ?_
            refine Ra.AllReadyA.cons rfl (fun K hK => ?_) Ra.AllReadyA.nil
            refine step_append_lies _ rfl _ _ _ rfl (w.heap.size + 1) 3 i0 (.int .i64 0) 1 8 Tryz.underlying45 hif hz0 hz1 hz2 rfl (by decide) (.slice na j nc) j _ rfl ((N4.out.alloc _).alloc _) ⟨wc.heap.size + 1, 0, none⟩ 1 1 [.int .i64 (nx j : Nat)] rfl rfl (cells_blk (blk_a2 wc.drew (pagO kd E (nx (j + 1) : Nat) S) #[.int .i64 (nx j : Nat)] 3)) (by simp [Value.oneCell']) (by omega) (by unfold maxLen; omega) (by omega) hHeld.lt _ rfl ?_
            intro g1 c1 w5 ho1 hg1 hat1 hl1
            have k8 := Keep.grown (S := fun k => (Value.slice na j nc).ownBlock = some k) hg1 (fun j h => h)
            have HO := Lib.hid ho1
            have HB := Lib.hid (k8.blk (blk_a1 wc.drew #[.int .i64 kd, .int .i64 E, .int .i64 (nx (j + 1) : Nat), .string S] 113 (intO (nx j))) (fun e => absurd (Yn.out _ e).1 (by show ¬ (wc.heap.size + 0 < wc.heap.size); omega)))
            have Hpg : Hid (pv.ownBlock ≠ some g1) := Lib.hid (fun e => by (have hpl := (Yp.out _ e).1; rcases hat1 with h1 | h1; exact X4.out g1 h1 e; (have h2 := h1; simp at h2; omega)))
            clear ho1 hat1 hg1
            refine hK.out _ _ (hHeld.keep k8 (fun i hi => ⟨own_base N4.out i hi, (Yn.out i hi).2, X4.out i hi⟩)) (fun hHeld2 => ?_)
            clear hK K
            try clear hHeld
            have hHeld := hHeld2
            try clear hHeld2
            refine Ra.wpA_ready (rs := [15]) (by kernel_rfl) (by simp) ?_
            refine Ra.AllReadyA.late rfl rfl (fun K hK => ?_) Ra.AllReadyA.nil
            refine step_append_lies _ rfl _ _ _ rfl (w.heap.size + 1) 113 i1 (.agg #[.int .i64 0, .int .i64 0, .int .i64 0, .string ⟨#[]⟩]) 4 40 Tryz.underlying68 hig hy0 hy1 hy2 rfl (by decide) pv j _ rfl hHeld.row _ 1 1 [.int .i64 kd, .int .i64 E, .int .i64 (nx (j + 1) : Nat), .string S] rfl rfl (cells_blk HB.out) (by intro u hu; simp at hu; rcases hu with rfl | rfl | rfl | rfl <;> rfl) (by omega) (by unfold maxLen; omega) (by omega) hHeld.lt _ rfl ?_
            intro g2 c2 w6 ho2 hg2 hat2 hl2
            have k9 := Keep.grown (S := fun k => pv.ownBlock = some k) hg2 (fun j h => h)
            have HO6 := Lib.hid (k9.row HO.out (fun g hg e => by (injection hg with hg; subst hg; exact Hpg.out e)))
            have HP6 := Lib.hid ho2
            have Hg12 : Hid (g1 ≠ g2) := Lib.hid (fun e => by (subst e; rcases hat2 with h1 | h1; exact Hpg.out h1; (have h2 := h1; have h3 := own_lt HO.out g1 rfl; (try simp only [World.size_alloc] at h2 h3); omega)))
            have ch6 := k9.blk hHeld.chain (fun e => by have := own_base hHeld.row _ e; omega)
            have PG6 := Lib.hid (k9.blk hHeld.page (fun e => (Yp.out _ e).2 rfl))
            have G6 := Lib.hid (hHeld.g.owns k9 (fun i hi => by have := own_base hHeld.row _ hi; have := hHeld.old; omega))
            have R6 := Lib.hid (hHeld.r.keep k9 (fun i hi => by have := own_base hHeld.row _ hi; omega))
            have cc6 := blk_cell ch6
            have fc6 := blk_free ch6
            have lc6 := lt_of_block ch6
            have ch7 := heap_setCell_same w6 w.heap.size 1 _ _ (.slice (some ⟨g1, 0, none⟩) (j + 1) c1) ch6
            have cc7 := blk_cell ch7
            have fc7 := blk_free ch7
            clear ho2 hg2 hat2 hHeld k9 HO HB Hpg
            refine hK.out _ _ (trivial) (fun hHeld2 => ?_)
            clear hK K
            try clear hHeld
            have hHeld := hHeld2
            try clear hHeld2
            refine Ra.WT 16 ?_ ?_ ?_
            rotate_left
            · intro wq hSw
              go_simp
              try with_reducible rfl
            try simp only [Act.put, List.getElem_toArray, List.getElem_cons_succ, List.getElem_cons_zero, List.setIfInBounds_toArray, List.set_cons_zero, List.set_cons_succ]
            refine Ra.WT 17 ?_ ?_ ?_
            rotate_left
            · intro wq hSw
              go_simp
              try with_reducible rfl
            try simp only [Act.put, List.getElem_toArray, List.getElem_cons_succ, List.getElem_cons_zero, List.setIfInBounds_toArray, List.set_cons_zero, List.set_cons_succ]
            refine Ra.wpA_ready (rs := [18]) (by kernel_rfl) (by simp) ?_
            refine Ra.AllReadyA.late rfl rfl (fun K hK => ?_) Ra.AllReadyA.nil
            rw [if_pos (by kernel_rfl)]
            go_simp
            skip
            refine hK.out _ _ (trivial) (fun hHeld2 => ?_)
            clear hK K
            try clear hHeld
            have hHeld := hHeld2
            try clear hHeld2
            refine Ra.WT 19 ?_ ?_ ?_
            rotate_left
            · intro wq hSw
              go_simp
              try with_reducible rfl
            try simp only [Act.put, List.getElem_toArray, List.getElem_cons_succ, List.getElem_cons_zero, List.setIfInBounds_toArray, List.set_cons_zero, List.set_cons_succ]
            refine Ra.WT 20 ?_ ?_ ?_
            rotate_left
            · intro wq hSw
              go_simp
              try with_reducible rfl
            try simp only [Act.put, List.getElem_toArray, List.getElem_cons_succ, List.getElem_cons_zero, List.setIfInBounds_toArray, List.set_cons_zero, List.set_cons_succ]
            refine Ra.wpA_ready (rs := [21]) (by kernel_rfl) (by simp) ?_
            refine Ra.AllReadyA.late rfl rfl (fun K hK => ?_) Ra.AllReadyA.nil
            rw [if_pos (by kernel_rfl)]
            go_simp
            skip
            refine hK.out _ _ (trivial) (fun hHeld2 => ?_)
            clear hK K
            try clear hHeld
            have hHeld := hHeld2
            try clear hHeld2
            refine Ra.wpA_done (by kernel_rfl) ?_ _
            have ch8 := heap_setCell_same _ w.heap.size 2 _ _ (.slice (some ⟨g2, 0, none⟩) (j + 1) c2) ch7
            obtain ⟨WF, hWF⟩ : ∃ WF, WF = (w6.setCell ⟨w.heap.size, 1, none⟩ (.slice (some ⟨g1, 0, none⟩) (j + 1) c1)).setCell ⟨w.heap.size, 2, none⟩ (.slice (some ⟨g2, 0, none⟩) (j + 1) c2) := ⟨_, rfl⟩
            have kF : Keep (fun j => j = w.heap.size) w6 WF := hWF ▸ Keep.setCell (S := fun j => j = w.heap.size) (Keep.setCell (S := fun j => j = w.heap.size) (Keep.refl _ w6) (.inl rfl) _) (.inl rfl) _
            have hT : L.take (j + 1) = L.take j ++ [(nx j, ⟨kd, E, (nx (j + 1) : Nat), bodyF cs⟩)] := by (first | (rw [List.take_add_one, HL.out]; rfl) | (have h9 := @List.take_add_one _ L 0; rw [HL.out] at h9; exact h9))
            have o1 := HO6.out
            have o2 := HP6.out
            rw [show natV ((L.take j).map (·.1)) ++ [Value.int .i64 (nx j : Nat)] = natV ((L.take (j + 1)).map (·.1)) from by rw [hT, List.map_append]; unfold natV; rw [List.map_append]; rfl] at o1
            rw [show flatP ((L.take j).map (·.2)) ++ [Value.int .i64 kd, .int .i64 E, .int .i64 (nx (j + 1) : Nat), .string S] = flatP ((L.take (j + 1)).map (·.2)) from by rw [hT, List.map_append, flatP_append, HS.out]; simp [flatP, pcells]] at o2
            have MF : Hid (RdL w0 w WF gb mb sb qb c n pg tk (j + 1) (.slice (some ⟨g1, 0, none⟩) (j + 1) c1) (.slice (some ⟨g2, 0, none⟩) (j + 1) c2) L) := Lib.hid ⟨hWF ▸ (by simpa using ch8), G6.out.own kF ⟨Hold.out.1, Hold.out.2⟩, R6.out.keep kF (fun i hi => Nat.le_of_eq hi.symm), kF.row o1 (fun g hg e => by (have := own_base o1 g hg; omega)), kF.row o2 (fun g hg e => by (have := own_base o2 g hg; omega)), fun i hi e => by (injection hi with hi; injection e with e; exact Hg12.out (hi.trans e.symm))⟩
            have PGF := kF.blk PG6.out (by have := Hq9.out; omega)
            have cpF := blk_cell PGF
            have lpF := lt_of_block PGF
            have Hc1 := Lib.hid (blk_cell MF.out.chain 1)
            rw [← hWF]
            clear hWF ch6 ch7 ch8 cc6 cc7 fc6 fc7 lc6 kF PGF o1 o2 hT HO6 HP6 PG6 G6 R6 k8 D4 N4 X4 Yn Yp M4 P4
            go_wp2_with fail
            refine ⟨⟨(j + 1), _, _, rfl, by rw [if_neg (by omega)], by omega, MF, Hc1⟩, ?_⟩
            rw [show WF.cell? ⟨w.heap.size, 1, none⟩ = some (.slice (some ⟨g1, 0, none⟩) (j + 1) c1) from Hc1.out, hcl.out]
            exact Nat.sub_lt_sub_left hlt (Nat.lt_succ_self _)
    · obtain rfl : j = N := by omega
      have hz : nx j = 0 := Hend.out
      have hjn : ¬ (j = 0) := by omega
      have hzi : (nx j : Int) = 0 := by omega
      rw [hzi]
      have d1 : ((j : Int) == 0) = false := by simp; omega
      have d2 : decide (j = 0) = false := by simpa using hjn
      have HM := Lib.hid hm.out
      have hL' : L.take j = L := List.take_of_length_le (by have := Hlen.out; omega)
      go_wp2_with fail
      go_ret2
      refine ⟨w.heap.size, rfl, ⟨⟨_, _, HM.out.chain, ?_, ?_, ?_, ?_, ?_⟩, Nat.le_refl _⟩, HM.out.g, HM.out.r⟩
      · have := row_mono HM.out.nrow (Nat.le_succ w.heap.size)
        rw [hL'] at this
        rw [Hlen.out]
        exact this
      · have := row_mono HM.out.prow (Nat.le_succ w.heap.size)
        rw [hL'] at this
        rw [Hlen.out]
        exact this
      · exact fun e => by have := own_base HM.out.nrow _ e; omega
      · exact fun e => by have := own_base HM.out.prow _ e; omega
      · intro hne e
        rcases hb : (Value.slice na j nc).ownBlock with _ | i
        · rcases HM.out.nrow.2 with ⟨_, h0⟩ | ⟨g, _, _, h0, _⟩
          · exact absurd h0 hjn
          · rw [h0] at hb; cases hb
        · exact HM.out.ne i hb (e ▸ hb)
end Go.Proofs.YtijhamllnnilbaaGreatDoor.Ha
