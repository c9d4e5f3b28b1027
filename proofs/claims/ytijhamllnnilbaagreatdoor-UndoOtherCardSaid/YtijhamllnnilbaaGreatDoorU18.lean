/- Lemmas of the claim, in their order:
- The contracts of slices.Grow and slices.Concat at lists of numbers.
- The contract of dir's Double.
- The contracts of dir, of a directory page that is known by its entries.
- The table's pages. No program in sight.
- A new store's pages; what the laws' New gives (for seats without Patches).
- A group over a store of n pages, by the pages that it shows.
-/
import Derived.Test.YtijhamllnnilbaaGreatDoorU16
import Derived.Test.YtijhamllnnilbaaGreatDoorU09
import Derived.Test.YtijhamllnnilbaaGreatDoorU17
set_option linter.unusedVariables false
set_option linter.unusedSimpArgs false
namespace Go.Proofs.YtijhamllnnilbaaGreatDoor.Dr
open Go.RowKit Go.Proofs.YtijhamllnnilbaaGreatDoor.Mem Go.Proofs.YtijhamllnnilbaaGreatDoor.Pg

end Go.Proofs.YtijhamllnnilbaaGreatDoor.Dr
namespace Go.Proofs.YtijhamllnnilbaaGreatDoor.Dr
open Go.RowKit Go.Proofs.YtijhamllnnilbaaGreatDoor.Mem Go.Proofs.YtijhamllnnilbaaGreatDoor.Pg

end Go.Proofs.YtijhamllnnilbaaGreatDoor.Dr
namespace Go.Proofs.YtijhamllnnilbaaGreatDoor.Dr
open Go.RowKit Go.Proofs.YtijhamllnnilbaaGreatDoor.Mem Go.Proofs.YtijhamllnnilbaaGreatDoor.Pg

/-- The body of a directory page with these entries. -/
def bdy (xs : List Int) : ByteArray := str (bodyOf xs)
structure Good (d : Nat) (D : Int) (xs : List Int) : Prop where
  hD : D = d
  hi : d ≤ 5
  len : xs.length = 2 ^ d
  may : ∀ y ∈ xs, mayP y
theorem Good.isDir {d : Nat} {D : Int} {xs : List Int} (h : Good d D xs) : IsDir 1 D (bodyOf xs) xs.length := by
  rw [h.hD]
  exact isDir_body xs h.may d h.hi h.len
theorem Good.ents {d : Nat} {D : Int} {xs : List Int} (h : Good d D xs) : ents (bodyOf xs) xs.length = xs := ents_body xs h.may
theorem Good.le {d : Nat} {D : Int} {xs : List Int} (h : Good d D xs) : 1 ≤ xs.length ∧ xs.length ≤ 32 := h.isDir.le
theorem good_at {d : Nat} {D : Int} {xs : List Int} (h : Good d D xs) (i : Nat) (hi : i < xs.length) (w : World) :
    Calls Tryz.prog 133 #[.agg #[.int .i64 1, .int .i64 D, .int .i64 0, .string (bdy xs)], .int .i64 i] w fun e w' =>
      e = .returned (.tuple #[.int .i64 (xs.getD i 0), .bool true]) ∧ Below w.heap.size w w' := by
  refine (at_any 1 D 0 (bodyOf xs) i w).mono ?_
  rintro e w' ⟨⟨n, j, hd, hj, hjn, rfl⟩ | ⟨hno, _⟩, hb⟩
  · obtain rfl : i = j := by omega
    exact ⟨by rw [ent_body xs h.may i hi], hb⟩
  · have := hno _ h.isDir
    omega
theorem good_depth {d : Nat} {D : Int} {xs : List Int} (h : Good d D xs) (w : World) :
    Calls Tryz.prog 132 #[.agg #[.int .i64 1, .int .i64 D, .int .i64 0, .string (bdy xs)]] w fun e w' =>
      e = .returned (.int .i64 D) ∧ Below w.heap.size w w' := by
  refine (depth_any 1 D 0 (bodyOf xs) w).mono ?_
  rintro e w' ⟨⟨_, rfl⟩ | ⟨hno, _⟩, hb⟩
  · exact ⟨rfl, hb⟩
  · exact absurd h.isDir (hno _)
theorem good_all {d : Nat} {D : Int} {xs : List Int} (h : Good d D xs) (n : Nat) (hn : n = xs.length) (w : World) :
    Calls Tryz.prog 147 #[.agg #[.int .i64 1, .int .i64 D, .int .i64 0, .string (bdy xs)]] w fun e w' =>
      ∃ g cap, e = .returned (.slice (some ⟨g, 0, none⟩) n cap) ∧ w'.ownsRow w.heap.size 3 1 (.slice (some ⟨g, 0, none⟩) n cap) n (ints xs) ∧ g < w'.heap.size ∧ Below w.heap.size w w' := by
  subst hn
  refine (all_any 1 D 0 (bodyOf xs) w).mono ?_
  rintro e w' (⟨n, g, cap, hd, rfl, ho, hgl, _, hb⟩ | ⟨hno, _⟩)
  · obtain rfl := isDir_same hd h.isDir
    rw [h.ents] at ho
    exact ⟨g, cap, rfl, ho, hgl, hb⟩
  · exact absurd h.isDir (hno _)

end Go.Proofs.YtijhamllnnilbaaGreatDoor.Dr
namespace Go.Proofs.YtijhamllnnilbaaGreatDoor.Ha
open Go.RowKit Go.Proofs.YtijhamllnnilbaaGreatDoor.Mem Go.Proofs.YtijhamllnnilbaaGreatDoor.Pg Go.Proofs.YtijhamllnnilbaaGreatDoor.Gr
set_option linter.unusedVariables false
set_option linter.unusedSimpArgs false

def nextF : List (Nat × List Cel) → Nat
  | [] => 0
  | p :: _ => p.1
/-- Pages of a bucket: each leads to the next one. -/
def pagsF (k d : Int) : List (Nat × List Cel) → List (Nat × Pag)
  | [] => []
  | p :: r => (p.1, ⟨k, d, (nextF r : Nat), bodyF p.2⟩) :: pagsF 4 0 r
theorem pagsF_len (k d : Int) (ps : List (Nat × List Cel)) : (pagsF k d ps).length = ps.length := by
  induction ps generalizing k d with
  | nil => rfl
  | cons p r ih => simp [pagsF, ih]
theorem pagsF_nums (k d : Int) (ps : List (Nat × List Cel)) : (pagsF k d ps).map (·.1) = ps.map (·.1) := by
  induction ps generalizing k d with
  | nil => rfl
  | cons p r ih => simp [pagsF, ih]
def Lf.pags (b : Lf) (d : Nat) : List (Nat × Pag) := pagsF 3 (d : Nat) b.pgs
def numsF (l : List Lf) : List Nat := l.flatMap Lf.nums
theorem numsF_append (a b : List Lf) : numsF (a ++ b) = numsF a ++ numsF b := by simp [numsF]
theorem Lf.n_mem (b : Lf) : b.n ∈ b.nums := List.mem_cons_self ..
theorem numsF_mem {l : List Lf} {b : Lf} {m : Nat} (h : b ∈ l) (hm : m ∈ b.nums) : m ∈ numsF l := List.mem_flatMap.2 ⟨b, h, hm⟩
/-- A directory's entries. -/
def entsF (D : Nat) (t : Tri) : List Int := (List.range (2 ^ D)).map fun i => ((t.at' i).n : Int)
theorem entsF_len (D : Nat) (t : Tri) : (entsF D t).length = 2 ^ D := by simp [entsF]
theorem entsF_get (D : Nat) (t : Tri) (i : Nat) (h : i < 2 ^ D) : (entsF D t)[i]? = some ((t.at' i).n : Int) := by simp [entsF, h]
def dirF (D : Nat) (t : Tri) : Pag := ⟨1, D, 0, Dr.bodyOf (entsF D t)⟩
structure Tb (n : Nat) (pg : Nat → Pag) (D : Nat) (t : Tri) : Prop where
  hi : t.height ≤ D
  d5 : D ≤ 5
  dirp : pg 0 = dirF D t
  shown : ∀ i q, q ∈ (t.at' i).pags (t.dep i) → pg q.1 = q.2
  fits : ∀ b, b ∈ t.leaves → ∀ p, p ∈ b.pgs → Fits p.2
  nums : (numsF t.leaves).Nodup
  rng : ∀ m, m ∈ numsF t.leaves → 2 ≤ m ∧ m < n
  lead : ∀ b, b ∈ t.leaves → ∀ c, c ∈ b.cells → t.at' (sumF c.key) = b
  keys : ∀ b, b ∈ t.leaves → (b.cells.map Cel.key).Nodup
variable {n D : Nat} {pg pg' : Nat → Pag} {t s : Tri}
theorem Tb.at_rng (T : Tb n pg D t) (i : Nat) : 2 ≤ (t.at' i).n ∧ (t.at' i).n < n := T.rng _ (numsF_mem (t.at_mem i) (Lf.n_mem _))
theorem Tb.good (T : Tb n pg D t) (h64 : n ≤ 64) : Dr.Good D D (entsF D t) :=
  ⟨rfl, T.d5, entsF_len D t, fun y hy => by
    obtain ⟨i, _, rfl⟩ := List.mem_map.1 hy
    have := T.at_rng i
    exact ⟨by omega, by omega⟩⟩
theorem numsF_n : ∀ (l : List Lf), (numsF l).Nodup → (l.map Lf.n).Nodup
  | [], _ => List.nodup_nil
  | b :: l, h => by
    have h' : (b.nums ++ numsF l).Nodup := by simpa [numsF] using h
    rw [List.nodup_append] at h'
    rw [List.map_cons, List.nodup_cons]
    refine ⟨fun hm => ?_, numsF_n l h'.2.1⟩
    obtain ⟨c, hc, e⟩ := List.mem_map.1 hm
    exact h'.2.2 _ b.n_mem _ (numsF_mem hc c.n_mem) e.symm
theorem Tb.inj (T : Tb n pg D t) (i j : Nat) (h : (t.at' i).n = (t.at' j).n) : t.at' i = t.at' j ∧ t.dep i = t.dep j ∧ i % 2 ^ t.dep i = j % 2 ^ t.dep i := t.at_inj (numsF_n _ T.nums) i j h
end Go.Proofs.YtijhamllnnilbaaGreatDoor.Ha
namespace Go.Proofs.YtijhamllnnilbaaGreatDoor.Gr
open Go.RowKit Go.Proofs.YtijhamllnnilbaaGreatDoor.Mem Go.Proofs.YtijhamllnnilbaaGreatDoor.Pg Go.Proofs.YtijhamllnnilbaaGreatDoor.Kp Go.Proofs.YtijhamllnnilbaaGreatDoor.Sp
set_option linter.unusedVariables false
theorem below_keep {S : Nat → Prop} {B0 : Nat} {w a b : World} (h : Below B0 w a) (hB : B0 ≤ a.heap.size) (k : Keep S a b) (hs : ∀ i, S i → B0 ≤ i) : Below B0 w b := h.trans (k.to_below hB hs)
abbrev none0 : Int → Option (List UInt8) := fun _ => none
theorem rd_in {n : Nat} {B : Nat → List UInt8} {j : Nat} (h : j < n) : rd n (-1) B j = (B j, 0) := by
  unfold rd
  rw [if_neg (by omega), if_pos ⟨by omega, by omega⟩, Int.toNat_natCast]
end Go.Proofs.YtijhamllnnilbaaGreatDoor.Gr
namespace Go.Proofs.YtijhamllnnilbaaGreatDoor.Gr
open Go.RowKit Go.Proofs.YtijhamllnnilbaaGreatDoor.Mem Go.Proofs.YtijhamllnnilbaaGreatDoor.Pg Go.Proofs.YtijhamllnnilbaaGreatDoor.Kp Go.Proofs.YtijhamllnnilbaaGreatDoor.Sp
set_option linter.unusedVariables false

/-- The group (block gb, its map mb) over the store (block sb, its pages' strings qb) shows these pages. -/
structure GV (w0 w : World) (gb mb sb qb c n : Nat) (pg : Nat → Pag) (tk : Int) : Prop where
  tab : Tab w
  st : ∃ B M, Sto w sb qb n c (-1) B ∧ Grp w gb mb sb M tk ∧ ∀ i, i < n → ∃ b, seen n (-1) B M i = (b, 0) ∧ Shows b (pg i)
  n64 : n ≤ 64
  bel : Below w0.heap.size w0 w
  ord : w0.heap.size ≤ gb ∧ w0.heap.size ≤ mb ∧ sb < gb ∧ sb < mb ∧ qb < gb ∧ qb < mb ∧ gtab < gb ∧ gtab < mb
section
variable {w0 w w' : World} {gb mb sb qb c n : Nat} {pg : Nat → Pag} {tk : Int}
theorem GV.below (h : GV w0 w gb mb sb qb c n pg tk) (k : Below w.heap.size w w') : GV w0 w' gb mb sb qb c n pg tk := by
  obtain ⟨B, M, h1, h2, h3⟩ := h.st
  exact ⟨h.tab.below k, ⟨B, M, h1.below k, h2.below k, h3⟩, h.n64, below_base h.bel h.bel.size k, h.ord⟩
theorem GV.keep {S : Nat → Prop} (h : GV w0 w gb mb sb qb c n pg tk) (k : Keep S w w') (hS : ∀ i, S i → i ≠ gb ∧ i ≠ mb ∧ w0.heap.size ≤ i ∧ i ≠ sb ∧ i ≠ qb ∧ i ≠ gtab) : GV w0 w' gb mb sb qb c n pg tk := by
  obtain ⟨B, M, h1, h2, h3⟩ := h.st
  exact ⟨h.tab.keep k (fun e => (hS _ e).2.2.2.2.2 rfl), ⟨B, M, h1.keep k (fun e => (hS _ e).2.2.2.1 rfl) (fun e => (hS _ e).2.2.2.2.1 rfl), h2.keep k (fun e => (hS _ e).1 rfl) (fun e => (hS _ e).2.1 rfl), h3⟩, h.n64, below_keep h.bel h.bel.size k (fun i hi => (hS i hi).2.2.1), h.ord⟩
theorem GV.lt (h : GV w0 w gb mb sb qb c n pg tk) : gb < w.heap.size ∧ mb < w.heap.size ∧ sb < w.heap.size ∧ qb < w.heap.size := by
  obtain ⟨B, M, h1, h2, h3⟩ := h.st
  exact ⟨h2.lt1, h2.lt2, h1.lt1, h1.lt2⟩
theorem GV.get (h : GV w0 w gb mb sb qb c n pg tk) (i : Nat) (hi : i < n) :
    Calls Tryz.prog 64 #[.pointer (some ⟨gb, 0, none⟩), .int .i64 i] w fun e w' => e = .returned (.tuple #[(pg i).v, .int .i64 0]) ∧ Below w.heap.size w w' := by
  obtain ⟨B, M, h1, h2, h3⟩ := h.st
  obtain ⟨b, hb, hs⟩ := h3 i hi
  have := h.n64
  exact gget_any w gb mb sb qb n c (-1) B M tk i (kl_wf (by omega) (by omega)) h.tab h1 h2 b (pg i) hb hs
end
end Go.Proofs.YtijhamllnnilbaaGreatDoor.Gr
