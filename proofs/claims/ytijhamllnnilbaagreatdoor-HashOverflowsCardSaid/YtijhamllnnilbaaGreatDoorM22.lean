/- Lemmas of the claim, in their order:
- The contracts of dir, of a directory page that is known by its entries.
- The table's pages. No program in sight.
-/
import Derived.Test.YtijhamllnnilbaaGreatDoorM21
import Derived.Test.YtijhamllnnilbaaGreatDoorM09
set_option linter.unusedVariables false
set_option linter.unusedSimpArgs false
namespace Go.Proofs.YtijhamllnnilbaaGreatDoor.Dr
open Go.RowKit Go.Proofs.YtijhamllnnilbaaGreatDoor.Mem Go.Proofs.YtijhamllnnilbaaGreatDoor.Pg

/-- The body of a directory page with these entries. -/
def bdy (xs : List Int) : ByteArray := str (bodyOf xs)
structure Good (d : Nat) (D : Int) (xs : List Int) : Prop where
  hD : D = d
  hi : d ≤ 5
  len : xs.length = 2 ^ d
  may : ∀ y ∈ xs, mayP y
theorem Good.isDir {d : Nat} {D : Int} {xs : List Int} (h : Good d D xs) : IsDir 1 D (bodyOf xs) xs.length := by
  rw [h.hD]
  exact isDir_body xs h.may d h.hi h.len
theorem Good.ents {d : Nat} {D : Int} {xs : List Int} (h : Good d D xs) : ents (bodyOf xs) xs.length = xs := ents_body xs h.may
theorem Good.le {d : Nat} {D : Int} {xs : List Int} (h : Good d D xs) : 1 ≤ xs.length ∧ xs.length ≤ 32 := h.isDir.le
theorem Good.one (n : Int) (h : mayP n) : Good 0 0 [n] := ⟨rfl, by omega, rfl, by simpa using h⟩
theorem Good.twice {d : Nat} {D E : Int} {xs : List Int} (h : Good d D xs) (h4 : d < 5) (hE : E = D + 1) : Good (d + 1) E (xs ++ xs) :=
  ⟨by rw [hE, h.hD]; omega, by omega, by rw [List.length_append, h.len, Nat.pow_succ]; omega, fun y hy => h.may y (by simpa using hy)⟩
theorem Good.set {d : Nat} {D : Int} {xs : List Int} (h : Good d D xs) {q m : Nat} {b y : Int} (hy : mayP y) : Good d D (setTo xs q b y m) :=
  ⟨h.hD, h.hi, by rw [setTo_len]; exact h.len, setTo_may h.may hy⟩

theorem good_new (n : Int) (h : mayP n) (w : World) :
    Calls Tryz.prog 83 #[.int .i64 n] w fun e w' => e = .returned (.tuple #[.agg #[.int .i64 1, .int .i64 0, .int .i64 0, .string (bdy [n])], .bool true]) ∧ Below w.heap.size w w' := new_yes n w h
theorem good_double {d : Nat} {D : Int} {xs : List Int} (h : Good d D xs) (E : Int) (hE : E = D + 1) (h4 : d < 5) (w : World) :
    Calls Tryz.prog 142 #[.agg #[.int .i64 1, .int .i64 D, .int .i64 0, .string (bdy xs)]] w fun e w' =>
      e = .returned (.tuple #[.agg #[.int .i64 1, .int .i64 E, .int .i64 0, .string (bdy (xs ++ xs))], .int .i64 0]) ∧ Below w.heap.size w w' := by
  refine (double_any 1 D 0 (bodyOf xs) w).mono ?_
  rintro e w' ⟨⟨hno, _⟩ | ⟨n, hd, h5, _⟩ | ⟨n, hd, _, rfl⟩, hb⟩
  · exact absurd h.isDir (hno _)
  · have := h.hD
    omega
  · obtain rfl := isDir_same hd h.isDir
    refine ⟨?_, hb⟩
    rw [h.ents, hE]
    rfl
theorem good_full {d : Nat} {D : Int} {xs : List Int} (h : Good d D xs) (h5 : d = 5) (w : World) :
    Calls Tryz.prog 142 #[.agg #[.int .i64 1, .int .i64 D, .int .i64 0, .string (bdy xs)]] w fun e w' =>
      e = .returned (.tuple #[.agg #[.int .i64 0, .int .i64 0, .int .i64 0, .string ⟨#[]⟩], .int .i64 13]) ∧ Below w.heap.size w w' := by
  refine (double_any 1 D 0 (bodyOf xs) w).mono ?_
  rintro e w' ⟨⟨hno, _⟩ | ⟨n, hd, _, rfl⟩ | ⟨n, hd, h4, _⟩, hb⟩
  · exact absurd h.isDir (hno _)
  · exact ⟨rfl, hb⟩
  · have := h.hD
    omega
theorem good_halve_no {d : Nat} {D : Int} {xs : List Int} (h : Good d D xs) (hne : ¬ (2 ≤ xs.length ∧ xs.take (xs.length / 2) = xs.drop (xs.length / 2))) (w : World) :
    Calls Tryz.prog 226 #[.agg #[.int .i64 1, .int .i64 D, .int .i64 0, .string (bdy xs)]] w fun e w' =>
      e = .returned (.tuple #[.agg #[.int .i64 0, .int .i64 0, .int .i64 0, .string ⟨#[]⟩], .int .i64 11]) ∧ Below w.heap.size w w' := by
  refine (halve_any 1 D 0 (bodyOf xs) w).mono ?_
  rintro e w' ⟨⟨hno, _⟩ | ⟨n, hd, _, rfl⟩ | ⟨n, hd, hev, _⟩, hb⟩
  · exact absurd h.isDir (hno _)
  · exact ⟨rfl, hb⟩
  · obtain rfl := isDir_same hd h.isDir
    rw [Even2, h.ents] at hev
    exact absurd hev hne
theorem good_halve {d : Nat} {D : Int} {xs : List Int} (h : Good d D xs) (E : Int) (hE : E = D + 1) (h4 : d < 5) (w : World) :
    Calls Tryz.prog 226 #[.agg #[.int .i64 1, .int .i64 E, .int .i64 0, .string (bdy (xs ++ xs))]] w fun e w' =>
      e = .returned (.tuple #[.agg #[.int .i64 1, .int .i64 D, .int .i64 0, .string (bdy xs)], .int .i64 0]) ∧ Below w.heap.size w w' := by
  have h2 := h.twice h4 hE
  have hx1 := h.le.1
  have hhalf : (xs ++ xs).length / 2 = xs.length := by rw [List.length_append]; omega
  refine (halve_any 1 E 0 (bodyOf (xs ++ xs)) w).mono ?_
  rintro e w' ⟨⟨hno, _⟩ | ⟨n, hd, hev, _⟩ | ⟨n, hd, _, rfl⟩, hb⟩
  · exact absurd h2.isDir (hno _)
  · obtain rfl := isDir_same hd h2.isDir
    rw [Even2, h2.ents, hhalf] at hev
    exact absurd ⟨by rw [List.length_append]; omega, by simp⟩ hev
  · obtain rfl := isDir_same hd h2.isDir
    refine ⟨?_, hb⟩
    rw [h2.ents, hhalf, show E - 1 = D by omega, List.take_left']
    · rfl
    · rfl
theorem good_set {d : Nat} {D : Int} {xs : List Int} (h : Good d D xs) (dep : Nat) (b y : Int) (hdep : dep ≤ d) (hb0 : 0 ≤ b) (hb1 : b < (2 ^ dep : Nat)) (hy : mayP y) (w : World) :
    Calls Tryz.prog 145 #[.agg #[.int .i64 1, .int .i64 D, .int .i64 0, .string (bdy xs)], .int .i64 b, .int .i64 dep, .int .i64 y] w fun e w' =>
      e = .returned (.tuple #[.agg #[.int .i64 1, .int .i64 D, .int .i64 0, .string (bdy (setTo xs (2 ^ dep) b y xs.length))], .int .i64 0]) ∧ Below w.heap.size w w' := by
  have hok : SetOk D b dep y := ⟨by omega, by rw [h.hD]; omega, hb0, by rw [(pow_small dep (by have := h.hi; omega)).1]; exact hb1, hy⟩
  refine (set_any 1 D 0 (bodyOf xs) b dep y w).mono ?_
  rintro e w' ⟨⟨hno, _⟩ | ⟨n, hd, hno, _⟩ | ⟨n, hd, _, rfl⟩, hb⟩
  · exact absurd h.isDir (hno _)
  · exact absurd hok hno
  · obtain rfl := isDir_same hd h.isDir
    refine ⟨?_, hb⟩
    rw [h.ents, Int.toNat_natCast]
    rfl
theorem good_set_no {d : Nat} {D : Int} {xs : List Int} (h : Good d D xs) (b dep y : Int) (hno : ¬ SetOk D b dep y) (w : World) :
    Calls Tryz.prog 145 #[.agg #[.int .i64 1, .int .i64 D, .int .i64 0, .string (bdy xs)], .int .i64 b, .int .i64 dep, .int .i64 y] w fun e w' =>
      e = .returned (.tuple #[.agg #[.int .i64 0, .int .i64 0, .int .i64 0, .string ⟨#[]⟩], .int .i64 1]) ∧ Below w.heap.size w w' := by
  refine (set_any 1 D 0 (bodyOf xs) b dep y w).mono ?_
  rintro e w' ⟨⟨hn, _⟩ | ⟨n, hd, _, rfl⟩ | ⟨n, hd, hok, _⟩, hb⟩
  · exact absurd h.isDir (hn _)
  · exact ⟨rfl, hb⟩
  · exact absurd hok hno
theorem good_at {d : Nat} {D : Int} {xs : List Int} (h : Good d D xs) (i : Nat) (hi : i < xs.length) (w : World) :
    Calls Tryz.prog 133 #[.agg #[.int .i64 1, .int .i64 D, .int .i64 0, .string (bdy xs)], .int .i64 i] w fun e w' =>
      e = .returned (.tuple #[.int .i64 (xs.getD i 0), .bool true]) ∧ Below w.heap.size w w' := by
  refine (at_any 1 D 0 (bodyOf xs) i w).mono ?_
  rintro e w' ⟨⟨n, j, hd, hj, hjn, rfl⟩ | ⟨hno, _⟩, hb⟩
  · obtain rfl : i = j := by omega
    exact ⟨by rw [ent_body xs h.may i hi], hb⟩
  · have := hno _ h.isDir
    omega
theorem good_at_no {d : Nat} {D : Int} {xs : List Int} (h : Good d D xs) (i : Int) (hi : i < 0 ∨ xs.length ≤ i) (w : World) :
    Calls Tryz.prog 133 #[.agg #[.int .i64 1, .int .i64 D, .int .i64 0, .string (bdy xs)], .int .i64 i] w fun e w' =>
      e = .returned (.tuple #[.int .i64 0, .bool false]) ∧ Below w.heap.size w w' := by
  refine (at_any 1 D 0 (bodyOf xs) i w).mono ?_
  rintro e w' ⟨⟨n, j, hd, hj, hjn, rfl⟩ | ⟨hno, rfl⟩, hb⟩
  · obtain rfl := isDir_same hd h.isDir
    omega
  · exact ⟨rfl, hb⟩
theorem good_depth {d : Nat} {D : Int} {xs : List Int} (h : Good d D xs) (w : World) :
    Calls Tryz.prog 132 #[.agg #[.int .i64 1, .int .i64 D, .int .i64 0, .string (bdy xs)]] w fun e w' =>
      e = .returned (.int .i64 D) ∧ Below w.heap.size w w' := by
  refine (depth_any 1 D 0 (bodyOf xs) w).mono ?_
  rintro e w' ⟨⟨_, rfl⟩ | ⟨hno, _⟩, hb⟩
  · exact ⟨rfl, hb⟩
  · exact absurd h.isDir (hno _)
theorem good_all {d : Nat} {D : Int} {xs : List Int} (h : Good d D xs) (n : Nat) (hn : n = xs.length) (w : World) :
    Calls Tryz.prog 147 #[.agg #[.int .i64 1, .int .i64 D, .int .i64 0, .string (bdy xs)]] w fun e w' =>
      ∃ g cap, e = .returned (.slice (some ⟨g, 0, none⟩) n cap) ∧ w'.ownsRow w.heap.size 3 1 (.slice (some ⟨g, 0, none⟩) n cap) n (ints xs) ∧ g < w'.heap.size ∧ Below w.heap.size w w' := by
  subst hn
  refine (all_any 1 D 0 (bodyOf xs) w).mono ?_
  rintro e w' (⟨n, g, cap, hd, rfl, ho, hgl, _, hb⟩ | ⟨hno, _⟩)
  · obtain rfl := isDir_same hd h.isDir
    rw [h.ents] at ho
    exact ⟨g, cap, rfl, ho, hgl, hb⟩
  · exact absurd h.isDir (hno _)

/-- The zero page is no directory. -/
theorem zero_no (n : Nat) : ¬ IsDir 0 0 [] n := fun h => by cases h.kind
theorem zero_halve (w : World) :
    Calls Tryz.prog 226 #[.agg #[.int .i64 0, .int .i64 0, .int .i64 0, .string ⟨#[]⟩]] w fun e w' =>
      e = .returned (.tuple #[.agg #[.int .i64 0, .int .i64 0, .int .i64 0, .string ⟨#[]⟩], .int .i64 2]) ∧ Below w.heap.size w w' := by
  refine (halve_any 0 0 0 [] w).mono ?_
  rintro e w' ⟨⟨_, rfl⟩ | ⟨n, hd, _⟩ | ⟨n, hd, _⟩, hb⟩
  · exact ⟨rfl, hb⟩
  · exact absurd hd (zero_no n)
  · exact absurd hd (zero_no n)
theorem zero_at (b : Int) (w : World) :
    Calls Tryz.prog 133 #[.agg #[.int .i64 0, .int .i64 0, .int .i64 0, .string ⟨#[]⟩], .int .i64 b] w fun e w' =>
      e = .returned (.tuple #[.int .i64 0, .bool false]) ∧ Below w.heap.size w w' := by
  refine (at_any 0 0 0 [] b w).mono ?_
  rintro e w' ⟨⟨n, j, hd, _⟩ | ⟨_, rfl⟩, hb⟩
  · exact absurd hd (zero_no n)
  · exact ⟨rfl, hb⟩
theorem zero_depth (w : World) :
    Calls Tryz.prog 132 #[.agg #[.int .i64 0, .int .i64 0, .int .i64 0, .string ⟨#[]⟩]] w fun e w' =>
      e = .returned (.int .i64 (-1)) ∧ Below w.heap.size w w' := by
  refine (depth_any 0 0 0 [] w).mono ?_
  rintro e w' ⟨⟨⟨n, hd⟩, _⟩ | ⟨_, rfl⟩, hb⟩
  · exact absurd hd (zero_no n)
  · exact ⟨rfl, hb⟩
theorem zero_all (w : World) :
    Calls Tryz.prog 147 #[.agg #[.int .i64 0, .int .i64 0, .int .i64 0, .string ⟨#[]⟩]] w fun e w' =>
      e = .returned (.slice none 0 0) ∧ Below w.heap.size w w' := by
  refine (all_any 0 0 0 [] w).mono ?_
  rintro e w' (⟨n, _, _, hd, _⟩ | ⟨_, rfl, hb⟩)
  · exact absurd hd (zero_no n)
  · exact ⟨rfl, hb⟩
end Go.Proofs.YtijhamllnnilbaaGreatDoor.Dr
namespace Go.Proofs.YtijhamllnnilbaaGreatDoor.Ha
open Go.RowKit Go.Proofs.YtijhamllnnilbaaGreatDoor.Mem Go.Proofs.YtijhamllnnilbaaGreatDoor.Pg Go.Proofs.YtijhamllnnilbaaGreatDoor.Gr
set_option linter.unusedVariables false
set_option linter.unusedSimpArgs false

def nextF : List (Nat × List Cel) → Nat
  | [] => 0
  | p :: _ => p.1
/-- Pages of a bucket: each leads to the next one. -/
def pagsF (k d : Int) : List (Nat × List Cel) → List (Nat × Pag)
  | [] => []
  | p :: r => (p.1, ⟨k, d, (nextF r : Nat), bodyF p.2⟩) :: pagsF 4 0 r
theorem pagsF_len (k d : Int) (ps : List (Nat × List Cel)) : (pagsF k d ps).length = ps.length := by
  induction ps generalizing k d with
  | nil => rfl
  | cons p r ih => simp [pagsF, ih]
theorem pagsF_nums (k d : Int) (ps : List (Nat × List Cel)) : (pagsF k d ps).map (·.1) = ps.map (·.1) := by
  induction ps generalizing k d with
  | nil => rfl
  | cons p r ih => simp [pagsF, ih]
def Lf.pags (b : Lf) (d : Nat) : List (Nat × Pag) := pagsF 3 (d : Nat) b.pgs
def numsF (l : List Lf) : List Nat := l.flatMap Lf.nums
theorem numsF_append (a b : List Lf) : numsF (a ++ b) = numsF a ++ numsF b := by simp [numsF]
theorem Lf.n_mem (b : Lf) : b.n ∈ b.nums := List.mem_cons_self ..
theorem numsF_mem {l : List Lf} {b : Lf} {m : Nat} (h : b ∈ l) (hm : m ∈ b.nums) : m ∈ numsF l := List.mem_flatMap.2 ⟨b, h, hm⟩
/-- A directory's entries. -/
def entsF (D : Nat) (t : Tri) : List Int := (List.range (2 ^ D)).map fun i => ((t.at' i).n : Int)
theorem entsF_len (D : Nat) (t : Tri) : (entsF D t).length = 2 ^ D := by simp [entsF]
theorem entsF_get (D : Nat) (t : Tri) (i : Nat) (h : i < 2 ^ D) : (entsF D t)[i]? = some ((t.at' i).n : Int) := by simp [entsF, h]
def dirF (D : Nat) (t : Tri) : Pag := ⟨1, D, 0, Dr.bodyOf (entsF D t)⟩
structure Tb (n : Nat) (pg : Nat → Pag) (D : Nat) (t : Tri) : Prop where
  hi : t.height ≤ D
  d5 : D ≤ 5
  dirp : pg 0 = dirF D t
  shown : ∀ i q, q ∈ (t.at' i).pags (t.dep i) → pg q.1 = q.2
  fits : ∀ b, b ∈ t.leaves → ∀ p, p ∈ b.pgs → Fits p.2
  nums : (numsF t.leaves).Nodup
  rng : ∀ m, m ∈ numsF t.leaves → 2 ≤ m ∧ m < n
  lead : ∀ b, b ∈ t.leaves → ∀ c, c ∈ b.cells → t.at' (sumF c.key) = b
  keys : ∀ b, b ∈ t.leaves → (b.cells.map Cel.key).Nodup
variable {n D : Nat} {pg pg' : Nat → Pag} {t s : Tri}
theorem Tb.at_rng (T : Tb n pg D t) (i : Nat) : 2 ≤ (t.at' i).n ∧ (t.at' i).n < n := T.rng _ (numsF_mem (t.at_mem i) (Lf.n_mem _))
theorem Tb.good (T : Tb n pg D t) (h64 : n ≤ 64) : Dr.Good D D (entsF D t) :=
  ⟨rfl, T.d5, entsF_len D t, fun y hy => by
    obtain ⟨i, _, rfl⟩ := List.mem_map.1 hy
    have := T.at_rng i
    exact ⟨by omega, by omega⟩⟩
theorem numsF_n : ∀ (l : List Lf), (numsF l).Nodup → (l.map Lf.n).Nodup
  | [], _ => List.nodup_nil
  | b :: l, h => by
    have h' : (b.nums ++ numsF l).Nodup := by simpa [numsF] using h
    rw [List.nodup_append] at h'
    rw [List.map_cons, List.nodup_cons]
    refine ⟨fun hm => ?_, numsF_n l h'.2.1⟩
    obtain ⟨c, hc, e⟩ := List.mem_map.1 hm
    exact h'.2.2 _ b.n_mem _ (numsF_mem hc c.n_mem) e.symm
theorem Tb.inj (T : Tb n pg D t) (i j : Nat) (h : (t.at' i).n = (t.at' j).n) : t.at' i = t.at' j ∧ t.dep i = t.dep j ∧ i % 2 ^ t.dep i = j % 2 ^ t.dep i := t.at_inj (numsF_n _ T.nums) i j h
/-- Another tree in a tree: the table's pages are those of the tree that stands there. -/
structure Part (n : Nat) (pg' : Nat → Pag) (t : Tri) (h k : Nat) (s : Tri) : Prop where
  shown : ∀ i q, q ∈ (s.at' i).pags (k + s.dep i) → pg' q.1 = q.2
  fits : ∀ b, b ∈ s.leaves → ∀ p, p ∈ b.pgs → Fits p.2
  nums : (numsF s.leaves).Nodup
  rng : ∀ m, m ∈ numsF s.leaves → 2 ≤ m ∧ m < n
  new : ∀ m, m ∈ numsF s.leaves → m ∈ numsF (t.sub h k).leaves ∨ m ∉ numsF t.leaves
  lead : ∀ b, b ∈ s.leaves → ∀ c, c ∈ b.cells → sumF c.key % 2 ^ k = h % 2 ^ k ∧ s.at' (sumF c.key / 2 ^ k) = b
  keys : ∀ b, b ∈ s.leaves → (b.cells.map Cel.key).Nodup
theorem sub_mem {t : Tri} {k h : Nat} (hk : k ≤ t.dep h) {b : Lf} (hb : b ∈ (t.sub h k).leaves) : b ∈ t.leaves := by
  obtain ⟨L, R, e, _⟩ := Tri.leaves_upd k t h hk
  rw [e]
  exact List.mem_append_right _ (List.mem_append_left _ hb)
theorem Tb.upd {D' : Nat} (T : Tb n pg D t) {h k : Nat} (hk : k ≤ t.dep h) (P : Part n pg' t h k s) (hD : D ≤ D') (hs : k + s.height ≤ D') (h5 : D' ≤ 5) (hdir : pg' 0 = dirF D' (t.upd h k s))
    (same : ∀ m, m ∈ numsF t.leaves → m ∉ numsF (t.sub h k).leaves → pg' m = pg m) : Tb n pg' D' (t.upd h k s) := by
  obtain ⟨L, R, e1, e2⟩ := Tri.leaves_upd k t h hk
  have hnd := T.nums
  rw [e1, numsF_append, numsF_append, List.nodup_append, List.nodup_append] at hnd
  obtain ⟨n1, ⟨n2, n3, n4⟩, n5⟩ := hnd
  have hmem : ∀ b, b ∈ (t.upd h k s).leaves ↔ b ∈ L ∨ b ∈ s.leaves ∨ b ∈ R := fun b => by rw [e2, List.mem_append, List.mem_append]
  have hold : ∀ b, b ∈ L ∨ b ∈ R → b ∈ t.leaves := fun b hb => by rw [e1, List.mem_append, List.mem_append]; rcases hb with h | h; exact .inl h; exact .inr (.inr h)
  have hnot : ∀ b, b ∈ L ∨ b ∈ R → ∀ m, m ∈ b.nums → m ∉ numsF (t.sub h k).leaves := fun b hb m hm h' => by
    rcases hb with hb | hb
    · exact n5 m (numsF_mem hb hm) m (List.mem_append_left _ h') rfl
    · exact n4 m h' m (numsF_mem hb hm) rfl
  have hout : ∀ i, ¬ i % 2 ^ k = h % 2 ^ k → t.at' i ∈ L ∨ t.at' i ∈ R := fun i hi => by
    have h1 := e2 (.leaf ⟨(t.at' i).n + 1, [], []⟩)
    have h2 := Tri.at_upd (.leaf ⟨(t.at' i).n + 1, [], []⟩) k t h i hk
    rw [if_neg hi] at h2
    have h3 := Tri.at_mem (t.upd h k (.leaf ⟨(t.at' i).n + 1, [], []⟩)) i
    rw [h1, h2, List.mem_append, List.mem_append] at h3
    rcases h3 with h3 | h3 | h3
    · exact .inl h3
    · have h4 := congrArg Lf.n (List.mem_singleton.1 h3)
      simp only at h4
      omega
    · exact .inr h3
  have hin : ∀ b, b ∈ L ∨ b ∈ R → ∀ i, t.at' i = b → ¬ i % 2 ^ k = h % 2 ^ k := fun b hb i hi e => by
    have h1 := Tri.at_sub t k h i hk e
    have h2 := Tri.at_mem (t.sub h k) (i / 2 ^ k)
    rw [← h1, hi] at h2
    exact hnot b hb b.n b.n_mem (numsF_mem h2 b.n_mem)
  refine ⟨?_, h5, hdir, fun i q hq => ?_, fun b hb p hp => ?_, ?_, fun m hm => ?_, fun b hb c hc => ?_, fun b hb => ?_⟩
  · have := Tri.height_upd s k t h
    have := T.hi
    omega
  · rw [Tri.at_upd s k t h i hk, Tri.dep_upd s k t h i hk] at hq
    by_cases hi : i % 2 ^ k = h % 2 ^ k
    · rw [if_pos hi, if_pos hi] at hq
      exact P.shown _ q hq
    · rw [if_neg hi, if_neg hi] at hq
      have hm : q.1 ∈ (t.at' i).nums := by
        show q.1 ∈ (t.at' i).pgs.map (·.1)
        rw [← pagsF_nums 3 (t.dep i : Nat)]
        exact List.mem_map_of_mem hq
      rw [same _ (numsF_mem (t.at_mem i) hm) (hnot _ (hout i hi) _ hm)]
      exact T.shown i q hq
  · rcases (hmem b).1 hb with h1 | h1 | h1
    · exact T.fits b (hold b (.inl h1)) p hp
    · exact P.fits b h1 p hp
    · exact T.fits b (hold b (.inr h1)) p hp
  · rw [e2, numsF_append, numsF_append, List.nodup_append, List.nodup_append]
    have cross : ∀ m, m ∈ numsF s.leaves → m ∉ numsF L ∧ m ∉ numsF R := fun m hm => by
      rcases P.new m hm with h1 | h1
      · exact ⟨fun h2 => n5 m h2 m (List.mem_append_left _ h1) rfl, fun h2 => n4 m h1 m h2 rfl⟩
      · rw [e1, numsF_append, numsF_append, List.mem_append, List.mem_append] at h1
        exact ⟨fun h2 => h1 (.inl h2), fun h2 => h1 (.inr (.inr h2))⟩
    refine ⟨n1, ⟨P.nums, n3, fun a ha b hb e => (cross a ha).2 (e ▸ hb)⟩, fun a ha b hb e => ?_⟩
    rcases List.mem_append.1 hb with h1 | h1
    · exact (cross b h1).1 (e ▸ ha)
    · exact n5 a ha b (List.mem_append_right _ h1) e
  · rw [e2, numsF_append, numsF_append, List.mem_append, List.mem_append] at hm
    rcases hm with h1 | h1 | h1
    · exact T.rng m (by rw [e1, numsF_append]; exact List.mem_append_left _ h1)
    · exact P.rng m h1
    · exact T.rng m (by rw [e1, numsF_append, numsF_append]; exact List.mem_append_right _ (List.mem_append_right _ h1))
  · rw [Tri.at_upd s k t h _ hk]
    rcases (hmem b).1 hb with h1 | h1 | h1
    · have h2 := T.lead b (hold b (.inl h1)) c hc
      rw [if_neg (hin b (.inl h1) _ h2)]; exact h2
    · obtain ⟨h2, h3⟩ := P.lead b h1 c hc
      rw [if_pos h2]; exact h3
    · have h2 := T.lead b (hold b (.inr h1)) c hc
      rw [if_neg (hin b (.inr h1) _ h2)]; exact h2
  · rcases (hmem b).1 hb with h1 | h1 | h1
    · exact T.keys b (hold b (.inl h1))
    · exact P.keys b h1
    · exact T.keys b (hold b (.inr h1))
end Go.Proofs.YtijhamllnnilbaaGreatDoor.Ha
