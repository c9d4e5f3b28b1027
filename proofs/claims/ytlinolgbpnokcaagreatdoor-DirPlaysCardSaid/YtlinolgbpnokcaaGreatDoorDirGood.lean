/- The contracts of dir, of a directory page that is known by its entries. -/
import Derived.Test.YtlinolgbpnokcaaGreatDoorDirDouble
namespace Go.Proofs.YtlinolgbpnokcaaGreatDoor.Dr
open Go.RowKit Go.Proofs.YtlinolgbpnokcaaGreatDoor.Mem Go.Proofs.YtlinolgbpnokcaaGreatDoor.Pg

/-- The body of a directory page with these entries. -/
def bdy (xs : List Int) : ByteArray := str (bodyOf xs)
structure Good (d : Nat) (D : Int) (xs : List Int) : Prop where
  hD : D = d
  hi : d ≤ 5
  len : xs.length = 2 ^ d
  may : ∀ y ∈ xs, mayP y
theorem Good.isDir {d : Nat} {D : Int} {xs : List Int} (h : Good d D xs) : IsDir 1 D (bodyOf xs) xs.length := by
  rw [h.hD]
  exact isDir_body xs h.may d h.hi h.len
theorem Good.ents {d : Nat} {D : Int} {xs : List Int} (h : Good d D xs) : ents (bodyOf xs) xs.length = xs := ents_body xs h.may
theorem Good.le {d : Nat} {D : Int} {xs : List Int} (h : Good d D xs) : 1 ≤ xs.length ∧ xs.length ≤ 32 := h.isDir.le
theorem Good.one (n : Int) (h : mayP n) : Good 0 0 [n] := ⟨rfl, by omega, rfl, by simpa using h⟩
theorem Good.twice {d : Nat} {D E : Int} {xs : List Int} (h : Good d D xs) (h4 : d < 5) (hE : E = D + 1) : Good (d + 1) E (xs ++ xs) :=
  ⟨by rw [hE, h.hD]; omega, by omega, by rw [List.length_append, h.len, Nat.pow_succ]; omega, fun y hy => h.may y (by simpa using hy)⟩
theorem Good.set {d : Nat} {D : Int} {xs : List Int} (h : Good d D xs) {q m : Nat} {b y : Int} (hy : mayP y) : Good d D (setTo xs q b y m) :=
  ⟨h.hD, h.hi, by rw [setTo_len]; exact h.len, setTo_may h.may hy⟩

theorem good_new (n : Int) (h : mayP n) (w : World) :
    Calls Tryz.prog 5 #[.int .i64 n] w fun e w' => e = .returned (.tuple #[.agg #[.int .i64 1, .int .i64 0, .int .i64 0, .string (bdy [n])], .bool true]) ∧ Below w.heap.size w w' := new_yes n w h
theorem good_double {d : Nat} {D : Int} {xs : List Int} (h : Good d D xs) (E : Int) (hE : E = D + 1) (h4 : d < 5) (w : World) :
    Calls Tryz.prog 8 #[.agg #[.int .i64 1, .int .i64 D, .int .i64 0, .string (bdy xs)]] w fun e w' =>
      e = .returned (.tuple #[.agg #[.int .i64 1, .int .i64 E, .int .i64 0, .string (bdy (xs ++ xs))], .int .i64 0]) ∧ Below w.heap.size w w' := by
  refine (double_any 1 D 0 (bodyOf xs) w).mono ?_
  rintro e w' ⟨⟨hno, _⟩ | ⟨n, hd, h5, _⟩ | ⟨n, hd, _, rfl⟩, hb⟩
  · exact absurd h.isDir (hno _)
  · have := h.hD
    omega
  · obtain rfl := isDir_same hd h.isDir
    refine ⟨?_, hb⟩
    rw [h.ents, hE]
    rfl
theorem good_full {d : Nat} {D : Int} {xs : List Int} (h : Good d D xs) (h5 : d = 5) (w : World) :
    Calls Tryz.prog 8 #[.agg #[.int .i64 1, .int .i64 D, .int .i64 0, .string (bdy xs)]] w fun e w' =>
      e = .returned (.tuple #[.agg #[.int .i64 0, .int .i64 0, .int .i64 0, .string ⟨#[]⟩], .int .i64 13]) ∧ Below w.heap.size w w' := by
  refine (double_any 1 D 0 (bodyOf xs) w).mono ?_
  rintro e w' ⟨⟨hno, _⟩ | ⟨n, hd, _, rfl⟩ | ⟨n, hd, h4, _⟩, hb⟩
  · exact absurd h.isDir (hno _)
  · exact ⟨rfl, hb⟩
  · have := h.hD
    omega
theorem good_halve_no {d : Nat} {D : Int} {xs : List Int} (h : Good d D xs) (hne : ¬ (2 ≤ xs.length ∧ xs.take (xs.length / 2) = xs.drop (xs.length / 2))) (w : World) :
    Calls Tryz.prog 9 #[.agg #[.int .i64 1, .int .i64 D, .int .i64 0, .string (bdy xs)]] w fun e w' =>
      e = .returned (.tuple #[.agg #[.int .i64 0, .int .i64 0, .int .i64 0, .string ⟨#[]⟩], .int .i64 11]) ∧ Below w.heap.size w w' := by
  refine (halve_any 1 D 0 (bodyOf xs) w).mono ?_
  rintro e w' ⟨⟨hno, _⟩ | ⟨n, hd, _, rfl⟩ | ⟨n, hd, hev, _⟩, hb⟩
  · exact absurd h.isDir (hno _)
  · exact ⟨rfl, hb⟩
  · obtain rfl := isDir_same hd h.isDir
    rw [Even2, h.ents] at hev
    exact absurd hev hne
theorem good_halve {d : Nat} {D : Int} {xs : List Int} (h : Good d D xs) (E : Int) (hE : E = D + 1) (h4 : d < 5) (w : World) :
    Calls Tryz.prog 9 #[.agg #[.int .i64 1, .int .i64 E, .int .i64 0, .string (bdy (xs ++ xs))]] w fun e w' =>
      e = .returned (.tuple #[.agg #[.int .i64 1, .int .i64 D, .int .i64 0, .string (bdy xs)], .int .i64 0]) ∧ Below w.heap.size w w' := by
  have h2 := h.twice h4 hE
  have hx1 := h.le.1
  have hhalf : (xs ++ xs).length / 2 = xs.length := by rw [List.length_append]; omega
  refine (halve_any 1 E 0 (bodyOf (xs ++ xs)) w).mono ?_
  rintro e w' ⟨⟨hno, _⟩ | ⟨n, hd, hev, _⟩ | ⟨n, hd, _, rfl⟩, hb⟩
  · exact absurd h2.isDir (hno _)
  · obtain rfl := isDir_same hd h2.isDir
    rw [Even2, h2.ents, hhalf] at hev
    exact absurd ⟨by rw [List.length_append]; omega, by simp⟩ hev
  · obtain rfl := isDir_same hd h2.isDir
    refine ⟨?_, hb⟩
    rw [h2.ents, hhalf, show E - 1 = D by omega, List.take_left']
    · rfl
    · rfl
theorem good_set {d : Nat} {D : Int} {xs : List Int} (h : Good d D xs) (dep : Nat) (b y : Int) (hdep : dep ≤ d) (hb0 : 0 ≤ b) (hb1 : b < (2 ^ dep : Nat)) (hy : mayP y) (w : World) :
    Calls Tryz.prog 11 #[.agg #[.int .i64 1, .int .i64 D, .int .i64 0, .string (bdy xs)], .int .i64 b, .int .i64 dep, .int .i64 y] w fun e w' =>
      e = .returned (.tuple #[.agg #[.int .i64 1, .int .i64 D, .int .i64 0, .string (bdy (setTo xs (2 ^ dep) b y xs.length))], .int .i64 0]) ∧ Below w.heap.size w w' := by
  have hok : SetOk D b dep y := ⟨by omega, by rw [h.hD]; omega, hb0, by rw [(pow_small dep (by have := h.hi; omega)).1]; exact hb1, hy⟩
  refine (set_any 1 D 0 (bodyOf xs) b dep y w).mono ?_
  rintro e w' ⟨⟨hno, _⟩ | ⟨n, hd, hno, _⟩ | ⟨n, hd, _, rfl⟩, hb⟩
  · exact absurd h.isDir (hno _)
  · exact absurd hok hno
  · obtain rfl := isDir_same hd h.isDir
    refine ⟨?_, hb⟩
    rw [h.ents, Int.toNat_natCast]
    rfl
theorem good_set_no {d : Nat} {D : Int} {xs : List Int} (h : Good d D xs) (b dep y : Int) (hno : ¬ SetOk D b dep y) (w : World) :
    Calls Tryz.prog 11 #[.agg #[.int .i64 1, .int .i64 D, .int .i64 0, .string (bdy xs)], .int .i64 b, .int .i64 dep, .int .i64 y] w fun e w' =>
      e = .returned (.tuple #[.agg #[.int .i64 0, .int .i64 0, .int .i64 0, .string ⟨#[]⟩], .int .i64 1]) ∧ Below w.heap.size w w' := by
  refine (set_any 1 D 0 (bodyOf xs) b dep y w).mono ?_
  rintro e w' ⟨⟨hn, _⟩ | ⟨n, hd, _, rfl⟩ | ⟨n, hd, hok, _⟩, hb⟩
  · exact absurd h.isDir (hn _)
  · exact ⟨rfl, hb⟩
  · exact absurd hok hno
theorem good_at {d : Nat} {D : Int} {xs : List Int} (h : Good d D xs) (i : Nat) (hi : i < xs.length) (w : World) :
    Calls Tryz.prog 14 #[.agg #[.int .i64 1, .int .i64 D, .int .i64 0, .string (bdy xs)], .int .i64 i] w fun e w' =>
      e = .returned (.tuple #[.int .i64 (xs.getD i 0), .bool true]) ∧ Below w.heap.size w w' := by
  refine (at_any 1 D 0 (bodyOf xs) i w).mono ?_
  rintro e w' ⟨⟨n, j, hd, hj, hjn, rfl⟩ | ⟨hno, _⟩, hb⟩
  · obtain rfl : i = j := by omega
    exact ⟨by rw [ent_body xs h.may i hi], hb⟩
  · have := hno _ h.isDir
    omega
theorem good_at_no {d : Nat} {D : Int} {xs : List Int} (h : Good d D xs) (i : Int) (hi : i < 0 ∨ xs.length ≤ i) (w : World) :
    Calls Tryz.prog 14 #[.agg #[.int .i64 1, .int .i64 D, .int .i64 0, .string (bdy xs)], .int .i64 i] w fun e w' =>
      e = .returned (.tuple #[.int .i64 0, .bool false]) ∧ Below w.heap.size w w' := by
  refine (at_any 1 D 0 (bodyOf xs) i w).mono ?_
  rintro e w' ⟨⟨n, j, hd, hj, hjn, rfl⟩ | ⟨hno, rfl⟩, hb⟩
  · obtain rfl := isDir_same hd h.isDir
    omega
  · exact ⟨rfl, hb⟩
theorem good_depth {d : Nat} {D : Int} {xs : List Int} (h : Good d D xs) (w : World) :
    Calls Tryz.prog 15 #[.agg #[.int .i64 1, .int .i64 D, .int .i64 0, .string (bdy xs)]] w fun e w' =>
      e = .returned (.int .i64 D) ∧ Below w.heap.size w w' := by
  refine (depth_any 1 D 0 (bodyOf xs) w).mono ?_
  rintro e w' ⟨⟨_, rfl⟩ | ⟨hno, _⟩, hb⟩
  · exact ⟨rfl, hb⟩
  · exact absurd h.isDir (hno _)
theorem good_all {d : Nat} {D : Int} {xs : List Int} (h : Good d D xs) (n : Nat) (hn : n = xs.length) (w : World) :
    Calls Tryz.prog 12 #[.agg #[.int .i64 1, .int .i64 D, .int .i64 0, .string (bdy xs)]] w fun e w' =>
      ∃ g cap, e = .returned (.slice (some ⟨g, 0, none⟩) n cap) ∧ w'.ownsRow w.heap.size 3 1 (.slice (some ⟨g, 0, none⟩) n cap) n (ints xs) ∧ g < w'.heap.size ∧ Below w.heap.size w w' := by
  subst hn
  refine (all_any 1 D 0 (bodyOf xs) w).mono ?_
  rintro e w' (⟨n, g, cap, hd, rfl, ho, hgl, _, hb⟩ | ⟨hno, _⟩)
  · obtain rfl := isDir_same hd h.isDir
    rw [h.ents] at ho
    exact ⟨g, cap, rfl, ho, hgl, hb⟩
  · exact absurd h.isDir (hno _)

/-- The zero page is no directory. -/
theorem zero_no (n : Nat) : ¬ IsDir 0 0 [] n := fun h => by cases h.kind
theorem zero_halve (w : World) :
    Calls Tryz.prog 9 #[.agg #[.int .i64 0, .int .i64 0, .int .i64 0, .string ⟨#[]⟩]] w fun e w' =>
      e = .returned (.tuple #[.agg #[.int .i64 0, .int .i64 0, .int .i64 0, .string ⟨#[]⟩], .int .i64 2]) ∧ Below w.heap.size w w' := by
  refine (halve_any 0 0 0 [] w).mono ?_
  rintro e w' ⟨⟨_, rfl⟩ | ⟨n, hd, _⟩ | ⟨n, hd, _⟩, hb⟩
  · exact ⟨rfl, hb⟩
  · exact absurd hd (zero_no n)
  · exact absurd hd (zero_no n)
theorem zero_at (b : Int) (w : World) :
    Calls Tryz.prog 14 #[.agg #[.int .i64 0, .int .i64 0, .int .i64 0, .string ⟨#[]⟩], .int .i64 b] w fun e w' =>
      e = .returned (.tuple #[.int .i64 0, .bool false]) ∧ Below w.heap.size w w' := by
  refine (at_any 0 0 0 [] b w).mono ?_
  rintro e w' ⟨⟨n, j, hd, _⟩ | ⟨_, rfl⟩, hb⟩
  · exact absurd hd (zero_no n)
  · exact ⟨rfl, hb⟩
theorem zero_depth (w : World) :
    Calls Tryz.prog 15 #[.agg #[.int .i64 0, .int .i64 0, .int .i64 0, .string ⟨#[]⟩]] w fun e w' =>
      e = .returned (.int .i64 (-1)) ∧ Below w.heap.size w w' := by
  refine (depth_any 0 0 0 [] w).mono ?_
  rintro e w' ⟨⟨⟨n, hd⟩, _⟩ | ⟨_, rfl⟩, hb⟩
  · exact absurd hd (zero_no n)
  · exact ⟨rfl, hb⟩
theorem zero_all (w : World) :
    Calls Tryz.prog 12 #[.agg #[.int .i64 0, .int .i64 0, .int .i64 0, .string ⟨#[]⟩]] w fun e w' =>
      e = .returned (.slice none 0 0) ∧ Below w.heap.size w w' := by
  refine (all_any 0 0 0 [] w).mono ?_
  rintro e w' (⟨n, _, _, hd, _⟩ | ⟨_, rfl, hb⟩)
  · exact absurd hd (zero_no n)
  · exact ⟨rfl, hb⟩
end Go.Proofs.YtlinolgbpnokcaaGreatDoor.Dr
