/- Lemmas of the claim, in their order:
- Chapter 10 in plain Lean: the entries of a directory page. No program in sight.
- The contract of dir's may.
- The contract of dir's of: the entries of a page.
- The contract of the reference's Zeros.
-/
import Derived.Test.YtijhamllnnilbaaGreatDoorU01
import Derived.Lib.TrimByte
import Derived.Deep.RegionHeld
import Derived.Laws.BytesArg
set_option linter.unusedVariables false
set_option linter.unusedSimpArgs false
namespace Go.Proofs.YtijhamllnnilbaaGreatDoor.Dr
open Go.Proofs.YtijhamllnnilbaaGreatDoor.Pg

def bt (l : List UInt8) (i : Nat) : Int := (l.getD i 0).toNat
/-- The i-th entry of a body. -/
def ent (l : List UInt8) (i : Nat) : Int := bt l (2 * i) * 256 + bt l (2 * i + 1)
def ents (l : List UInt8) (n : Nat) : List Int := (List.range n).map fun i => ent l i
theorem ents_len (l : List UInt8) (n : Nat) : (ents l n).length = n := by simp [ents]
theorem ents_succ (l : List UInt8) (n : Nat) : ents l (n + 1) = ents l n ++ [ent l n] := by simp [ents, List.range_succ]
def mayP (x : Int) : Prop := 2 ≤ x ∧ x < 64
instance (x : Int) : Decidable (mayP x) := inferInstanceAs (Decidable (_ ∧ _))
def mayB (x : Int) : Bool := decide (mayP x)
theorem bt_range (l : List UInt8) (i : Nat) : 0 ≤ bt l i ∧ bt l i ≤ 255 := by
  have := (l.getD i 0).toNat_lt
  unfold bt
  omega
/-- A directory page: its depth's entries. -/
structure IsDir (k d : Int) (l : List UInt8) (n : Nat) : Prop where
  kind : k = 1
  lo : 0 ≤ d
  hi : d ≤ 5
  len : l.length = 240
  size : n = 2 ^ d.toNat
  may : ∀ i, i < n → mayP (ent l i)
  rest : ∀ c ∈ l.drop (2 * n), c = 0
theorem IsDir.le {k d : Int} {l : List UInt8} {n : Nat} (h : IsDir k d l n) : 1 ≤ n ∧ n ≤ 32 := by
  have h1 := h.lo
  have h2 := h.hi
  have h3 := h.size
  obtain ⟨m, rfl⟩ := Int.eq_ofNat_of_zero_le h1
  have : m ≤ 5 := by omega
  match m, this with
  | 0, _ | 1, _ | 2, _ | 3, _ | 4, _ | 5, _ => simp at h3; omega
end Go.Proofs.YtijhamllnnilbaaGreatDoor.Dr
namespace Go.Proofs.YtijhamllnnilbaaGreatDoor.Dr
open Go.RowKit Go.Proofs.YtijhamllnnilbaaGreatDoor.Mem Go.Proofs.YtijhamllnnilbaaGreatDoor.Pg

theorem may_any (x : Int) (w : World) : Calls Tryz.prog 163 #[.int .i64 x] w fun e w' => e = .returned (.bool (mayB x)) ∧ w' = w := by
  by_cases h1 : 2 ≤ x
  · by_cases h2 : x < 64
    · have hb : mayB x = true := decide_eq_true ⟨h1, h2⟩
      go_enter Tryz.func163, Tryz.ntmps163
      go_wp2
      go_ret
      exact ⟨by first | rfl | (rw [hb]; rfl), rfl⟩
    · have hb : mayB x = false := decide_eq_false (fun h => h2 h.2)
      go_enter Tryz.func163, Tryz.ntmps163
      go_wp2
      go_ret
      exact ⟨by first | rfl | (rw [hb]; rfl), rfl⟩
  · have hb : mayB x = false := decide_eq_false (fun h => h1 h.1)
    go_enter Tryz.func163, Tryz.ntmps163
    go_wp2
    go_ret
    exact ⟨by first | rfl | (rw [hb]; rfl), rfl⟩
end Go.Proofs.YtijhamllnnilbaaGreatDoor.Dr
namespace Go.Proofs.YtijhamllnnilbaaGreatDoor.Dr
open Go.RowKit Go.Proofs.YtijhamllnnilbaaGreatDoor.Mem Go.Proofs.YtijhamllnnilbaaGreatDoor.Pg

theorem dropWhile_nil {α : Type} (p : α → Bool) : ∀ l : List α, l.dropWhile p = [] ↔ ∀ x ∈ l, p x = true
  | [] => by simp
  | a :: l => by
    by_cases h : p a = true
    · simp [h, dropWhile_nil p l]
    · simp [h]
theorem trimB_nil (l : List UInt8) (c : UInt8) : Lib.trimB l c = [] ↔ ∀ x ∈ l, x = c := by
  unfold Lib.trimB Lib.trimLeftB Lib.trimRightB
  rw [dropWhile_nil]
  constructor
  · intro h x hx
    have h0 : l.reverse.dropWhile (· == c) = [] := by
      rcases hd : l.reverse.dropWhile (· == c) with _ | ⟨y, ys⟩
      · rfl
      · have h1 := List.head_dropWhile_not (fun x => x == c) (l := l.reverse) (by rw [hd]; simp)
        have h2 := h y (by rw [hd]; simp)
        simp [hd] at h1
        simp at h2
        exact absurd h2 h1
    rw [dropWhile_nil] at h0
    simpa using h0 x (by simpa using hx)
  · intro h x hx
    have h0 : l.reverse.dropWhile (· == c) = [] := by
      rw [dropWhile_nil]
      intro y hy
      simpa using h y (by simpa using hy)
    rw [h0] at hx
    simp at hx
theorem info_int : (Tryz.prog.info? 3).map (fun i => (i.zero, i.size, i.bytes)) = some (some (.int .i64 0), 1, 8) := by kernel_rfl

def OfPost (w : World) (k d : Int) (l : List UInt8) (e : Ending) (w' : World) : Prop :=
  (∃ n g cap, IsDir k d l n ∧ e = .returned (.tuple #[.agg #[.slice (some ⟨g, 0, none⟩) n cap, .int .i64 0], .bool true]) ∧ w'.ownsRow w.heap.size 3 1 (.slice (some ⟨g, 0, none⟩) n cap) n (ints (ents l n)) ∧ g < w'.heap.size ∧ w.heap.size ≤ g ∧ Below w.heap.size w w') ∨
  ((∀ n, ¬ IsDir k d l n) ∧ e = .returned (.tuple #[.agg #[.slice none 0 0, .int .i64 0], .bool false]) ∧ Below w.heap.size w w')

set_option maxRecDepth 100000 in
set_option maxHeartbeats 4000000 in
theorem of_head (k d x : Int) (l : List UInt8) (w : World) (h : k ≠ 1 ∨ d < 0 ∨ 5 < d ∨ l.length ≠ 240) :
    Calls Tryz.prog 187 #[.agg #[.int .i64 k, .int .i64 d, .int .i64 x, .string (str l)]] w (OfPost w k d l) := by
  have hno : ∀ n, ¬ IsDir k d l n := fun n hd => by
    have := hd.kind; have := hd.lo; have := hd.hi; have := hd.len
    omega
  have hsz := str_size l
  have Hno := Lib.hid hno
  clear hno
  obtain ⟨S, hS⟩ : ∃ S, S = str l := ⟨_, rfl⟩
  rw [← hS] at hsz ⊢
  generalize l.length = L at *
  clear hS
  rcases (show k ≠ 1 ∨ k = 1 ∧ (d < 0 ∨ ¬ d < 0 ∧ (5 < d ∨ ¬ 5 < d ∧ L ≠ 240)) from by omega) with h1 | ⟨h1, h2 | ⟨h2, h3 | ⟨h3, h4⟩⟩⟩
  · have d1 : (k != 1) = true := by simpa using h1
    clear h
    go_enter Tryz.func187, Tryz.ntmps187
    go_wp2
    refine bodyPost_ret (v := .tuple #[.agg #[.slice none 0 0, .int .i64 0], .bool false]) (by simp [results, Tryz.results187, go_sem]) rfl (.inr ⟨Hno.out, rfl, below_al (below_al (Below.refl _ w) _) _⟩)
  · subst h1
    clear h
    go_enter Tryz.func187, Tryz.ntmps187
    go_wp2
    refine bodyPost_ret (v := .tuple #[.agg #[.slice none 0 0, .int .i64 0], .bool false]) (by simp [results, Tryz.results187, go_sem]) rfl (.inr ⟨Hno.out, rfl, below_al (below_al (Below.refl _ w) _) _⟩)
  · subst h1
    clear h
    go_enter Tryz.func187, Tryz.ntmps187
    go_wp2
    refine bodyPost_ret (v := .tuple #[.agg #[.slice none 0 0, .int .i64 0], .bool false]) (by simp [results, Tryz.results187, go_sem]) rfl (.inr ⟨Hno.out, rfl, below_al (below_al (Below.refl _ w) _) _⟩)
  · subst h1
    have d4 : ((L : Int) != 240) = true := by simp; omega
    clear h
    go_enter Tryz.func187, Tryz.ntmps187
    go_wp2
    refine bodyPost_ret (v := .tuple #[.agg #[.slice none 0 0, .int .i64 0], .bool false]) (by simp [results, Tryz.results187, go_sem]) rfl (.inr ⟨Hno.out, rfl, below_al (below_al (Below.refl _ w) _) _⟩)

theorem str_bt (l : List UInt8) (i : Nat) (h : i < (str l).size) : (((str l)[i]'h).toNat : Int) = bt l i := by
  have h' : i < l.length := by rw [← str_size l]; exact h
  unfold bt
  rw [List.getD_eq_getElem?_getD, List.getElem?_eq_getElem h', Option.getD_some]
  rfl
theorem or_code {A B : Int} (hA : 0 ≤ A ∧ A ≤ 255) (hB : 0 ≤ B ∧ B ≤ 255) : bits .or .i64 (A * 256) B = A * 256 + B := by
  obtain ⟨a, rfl⟩ := Int.eq_ofNat_of_zero_le hA.1
  obtain ⟨b, rfl⟩ := Int.eq_ofNat_of_zero_le hB.1
  have e : ((a : Int) * 256) = ((a * 256 : Nat) : Int) := by omega
  rw [e]
  have h1 : (BitVec.ofInt 64 ((a * 256 : Nat) : Int)).toNat = a * 256 := by
    rw [BitVec.ofInt_natCast, BitVec.toNat_ofNat]; exact Nat.mod_eq_of_lt (by omega)
  have h2 : (BitVec.ofInt 64 (b : Int)).toNat = b := by
    rw [BitVec.ofInt_natCast, BitVec.toNat_ofNat]; exact Nat.mod_eq_of_lt (by omega)
  have h3 : a * 256 ||| b = a * 256 + b := by
    have := Nat.shiftLeft_add_eq_or_of_lt (i := 8) (show b < 2 ^ 8 by omega) a
    rw [Nat.shiftLeft_eq, show (2 : Nat) ^ 8 = 256 from rfl] at this
    omega
  show IntKind.i64.wrap ((BitVec.ofInt 64 ((a * 256 : Nat) : Int) ||| BitVec.ofInt 64 (b : Int)).toNat : Int) = _
  rw [BitVec.toNat_or, h1, h2, h3, IntWalk.i64_in _ (by omega)]
  omega
theorem own_weaken {w : World} {base base' : Nat} {e : TypeId} {size n : Nat} {v : Value} {xs : List Value} (h : w.ownsRow base e size v n xs) (hb : base' ≤ base) : w.ownsRow base' e size v n xs := by
  refine ⟨h.1, ?_⟩
  rcases h.2 with h | ⟨g, c, cur, h1, h2, h3⟩
  · exact .inl h
  · exact .inr ⟨g, c, cur, h1, Nat.le_trans hb h2, h3⟩

set_option maxRecDepth 100000 in
set_option maxHeartbeats 4000000 in
theorem of_body (d x : Int) (l : List UInt8) (n : Nat) (w : World) (h0 : 0 ≤ d) (h5 : d ≤ 5) (hl : l.length = 240) (hn : n = 2 ^ d.toNat) (hn1 : 1 ≤ n) (hn2 : n ≤ 32) (hsh : wrap64 (2 ^ d.toNat) = (n : Int)) (hsh2 : wrap64 (2 * 2 ^ d.toNat) = ((2 * n : Nat) : Int)) (hsh3 : IntKind.i64.wrap (2 * 2 ^ d.toNat) = ((2 * n : Nat) : Int)) :
    Calls Tryz.prog 187 #[.agg #[.int .i64 1, .int .i64 d, .int .i64 x, .string (str l)]] w (OfPost w 1 d l) := by
  have hsz := str_size l
  rw [hl] at hsz
  obtain ⟨S, hS⟩ : ∃ S, S = str l := ⟨_, rfl⟩
  rw [← hS] at hsz ⊢
  have hbt : ∀ (i : Nat) (h : i < S.size), ((S[i]'h).toNat : Int) = bt l i := by rw [hS]; exact str_bt l
  obtain ⟨i0, hif, hz0, hz1, hz2⟩ := info_parts info_int
  have Hsh3 := Lib.hid hsh3
  clear hsh3
  have HS := Lib.hid hS
  have Hl := Lib.hid hl
  have Hn := Lib.hid hn
  have Hbt := Lib.hid hbt
  clear hS hl hn hbt
  go_enter Tryz.func187, Tryz.ntmps187
  go_wp2_with fail
  rw [hsh]
  go_loopw [30] (fun i wr => ∃ (j : Nat) (v : Value), i = .int .i64 j ∧ j ≤ n ∧ wr.heap[w.heap.size]? = some (.cells #[.int .i64 1, .int .i64 d, .int .i64 x, .string S] 113 (0, 0)) ∧ wr.heap[w.heap.size + 1]? = some (.cells #[.slice none 0 0, .int .i64 0] 248 (0, 0)) ∧ wr.heap[w.heap.size + 2]? = some (.cells #[v, .int .i64 0] 248 (0, 0)) ∧ wr.ownsRow (w.heap.size + 3) 3 1 v j (ints (ents l j)) ∧ Below w.heap.size w wr ∧ Hid (∀ i, i < j → mayP (ent l i))) (fun i _ => n - (intOf i).toNat)
  case atStart =>
    refine ⟨0, .slice none 0 0, rfl, Nat.zero_le _, hal (hal (heap_alloc_new w _)), hal ?_, ?_, World.ownsRow_nil _ _ _ _, below_al (below_al (below_al (Below.refl _ w) _) _) _, Lib.hid (fun i hi => absurd hi (by omega))⟩
    · have := heap_alloc_new (w.alloc (.cells #[.int .i64 1, .int .i64 d, .int .i64 x, .string S] 113)) (.cells #[.slice none 0 0, .int .i64 0] 248)
      simpa using this
    · have := heap_alloc_new ((w.alloc (.cells #[.int .i64 1, .int .i64 d, .int .i64 x, .string S] 113)).alloc (.cells #[.slice none 0 0, .int .i64 0] 248)) (.cells #[.slice none 0 0, .int .i64 0] 248)
      simpa using this
  case round =>
    obtain ⟨j, v, rfl, hj, hpg, hres, hent, hown, hbel, hmays⟩ := hrel
    have hc3 := blk_cell hpg 3
    have hzp := lt_of_block hpg
    change wr.cell? ⟨w.heap.size, 3, none⟩ = some (.string S) at hc3
    by_cases hlt : j < n
    · obtain ⟨J2, hJ2⟩ : ∃ J2, J2 = 2 * j := ⟨_, rfl⟩
      obtain ⟨J3, hJ3⟩ : ∃ J3, J3 = 2 * j + 1 := ⟨_, rfl⟩
      obtain ⟨A, hA⟩ : ∃ A, A = bt l J2 := ⟨_, rfl⟩
      obtain ⟨B, hB⟩ : ∃ B, B = bt l J3 := ⟨_, rfl⟩
      obtain ⟨A8, hA8⟩ : ∃ A8, A8 = A * 256 := ⟨_, rfl⟩
      obtain ⟨E, hE⟩ : ∃ E, E = ent l j := ⟨_, rfl⟩
      have hAr : 0 ≤ A ∧ A ≤ 255 := by rw [hA]; exact bt_range l J2
      have hBr : 0 ≤ B ∧ B ≤ 255 := by rw [hB]; exact bt_range l J3
      have i1 : IntKind.i64.wrap (2 * (j : Int)) = (J2 : Int) := by rw [IntWalk.i64_in _ (by omega)]; omega
      have i2 : IntKind.i64.wrap ((J2 : Int) + 1) = (J3 : Int) := by rw [IntWalk.i64_in _ (by omega)]; omega
      have i3 : (J2 : Int) < 240 := by omega
      have i4 : (J3 : Int) < 240 := by omega
      have i5 : ∀ h : J2 < S.size, ((S[J2]'h).toNat : Int) = A := fun h => by rw [hA]; exact Hbt.out J2 h
      have i6 : ∀ h : J3 < S.size, ((S[J3]'h).toNat : Int) = B := fun h => by rw [hB]; exact Hbt.out J3 h
      have i7 : IntKind.i64.wrap A = A := IntWalk.i64_in _ (by omega)
      have i8 : IntKind.i64.wrap B = B := IntWalk.i64_in _ (by omega)
      have i9 : IntKind.i64.wrap (A * 256) = A8 := by rw [IntWalk.i64_in _ (by omega)]; omega
      have i10 : bits .or .i64 A8 B = E := by rw [hA8, or_code hAr hBr, hE, ent, hA, hB, hJ2, hJ3]
      have HE := Lib.hid hE
      have HA := Lib.hid hA
      have HB := Lib.hid hB
      have HA8 := Lib.hid hA8
      have HJ2 := Lib.hid hJ2
      have HJ3 := Lib.hid hJ3
      clear hE hA hB hA8 hJ2 hJ3
      go_wp2_with fail
      refine wp_region_held_drew (S := fun w' => w'.cell? ⟨w.heap.size, 3, none⟩ = some (.string S)) (by kernel_rfl) (hc3) (fun hHeld => ?_)
      refine wpAnyH_take (i := 0) (v := ?_) rfl (by kernel_rfl) (by kernel_rfl) (by kernel_rfl) (fun _ _ _ h => h) (Or.inl ⟨by rfl, ?_⟩) hHeld ?_
      rotate_left
      · intro wq hSw
        try dsimp only at hSw
        go_simp
        try rw [if_neg (by omega)]
        try rw [if_pos (by omega)]
        try with_reducible rfl
      try simp only [Act.put, List.setIfInBounds_toArray, List.set_cons_zero, List.set_cons_succ]
      refine wpAnyH_take (i := 1) (v := ?_) rfl (by kernel_rfl) (by kernel_rfl) (by kernel_rfl) (fun _ _ _ h => h) (Or.inl ⟨by rfl, ?_⟩) hHeld ?_
      rotate_left
      · intro wq hSw
        try dsimp only at hSw
        go_simp
        try rw [if_neg (by omega)]
        try rw [if_pos (by omega)]
        try with_reducible rfl
      try simp only [Act.put, List.setIfInBounds_toArray, List.set_cons_zero, List.set_cons_succ]
      refine wpAnyH_take (i := 2) (v := ?_) rfl (by kernel_rfl) (by kernel_rfl) (by kernel_rfl) (fun _ _ _ h => h) (Or.inl ⟨by rfl, ?_⟩) hHeld ?_
      rotate_left
      · intro wq hSw
        try dsimp only at hSw
        go_simp
        try rw [if_neg (by omega)]
        try rw [if_pos (by omega)]
        try with_reducible rfl
      try simp only [Act.put, List.setIfInBounds_toArray, List.set_cons_zero, List.set_cons_succ]
      refine wpAnyH_take (i := 3) (v := ?_) rfl (by kernel_rfl) (by kernel_rfl) (by kernel_rfl) (fun _ _ _ h => h) (Or.inl ⟨by rfl, ?_⟩) hHeld ?_
      rotate_left
      · intro wq hSw
        try dsimp only at hSw
        go_simp
        try rw [if_neg (by omega)]
        try rw [if_pos (by omega)]
        try with_reducible rfl
      try simp only [Act.put, List.setIfInBounds_toArray, List.set_cons_zero, List.set_cons_succ]
      refine wpAnyH_take (i := 4) (v := ?_) rfl (by kernel_rfl) (by kernel_rfl) (by kernel_rfl) (fun _ _ _ h => h) (Or.inl ⟨by rfl, ?_⟩) hHeld ?_
      rotate_left
      · intro wq hSw
        try dsimp only at hSw
        go_simp
        try rw [if_neg (by omega)]
        try rw [if_pos (by omega)]
        try with_reducible rfl
      try simp only [Act.put, List.setIfInBounds_toArray, List.set_cons_zero, List.set_cons_succ]
      refine wpAnyH_take (i := 5) (v := ?_) rfl (by kernel_rfl) (by kernel_rfl) (by kernel_rfl) (fun _ _ _ h => h) (Or.inl ⟨by rfl, ?_⟩) hHeld ?_
      rotate_left
      · intro wq hSw
        try dsimp only at hSw
        go_simp
        try rw [if_neg (by omega)]
        try rw [if_pos (by omega)]
        try with_reducible rfl
      try simp only [Act.put, List.setIfInBounds_toArray, List.set_cons_zero, List.set_cons_succ]
      refine wpAnyH_take (i := 6) (v := ?_) rfl (by kernel_rfl) (by kernel_rfl) (by kernel_rfl) (fun _ _ _ h => h) (Or.inl ⟨by rfl, ?_⟩) hHeld ?_
      rotate_left
      · intro wq hSw
        try dsimp only at hSw
        go_simp
        try rw [if_neg (by omega)]
        try rw [if_pos (by omega)]
        try with_reducible rfl
      try simp only [Act.put, List.setIfInBounds_toArray, List.set_cons_zero, List.set_cons_succ]
      refine wpAnyH_take (i := 7) (v := ?_) rfl (by kernel_rfl) (by kernel_rfl) (by kernel_rfl) (fun _ _ _ h => h) (Or.inl ⟨by rfl, ?_⟩) hHeld ?_
      rotate_left
      · intro wq hSw
        try dsimp only at hSw
        go_simp
        try rw [if_neg (by omega)]
        try rw [if_pos (by omega)]
        try with_reducible rfl
      try simp only [Act.put, List.setIfInBounds_toArray, List.set_cons_zero, List.set_cons_succ]
      refine wpAnyH_take (i := 8) (v := ?_) rfl (by kernel_rfl) (by kernel_rfl) (by kernel_rfl) (fun _ _ _ h => h) (Or.inl ⟨by rfl, ?_⟩) hHeld ?_
      rotate_left
      · intro wq hSw
        try dsimp only at hSw
        go_simp
        try rw [if_neg (by omega)]
        try rw [if_pos (by omega)]
        try with_reducible rfl
      try simp only [Act.put, List.setIfInBounds_toArray, List.set_cons_zero, List.set_cons_succ]
      refine wpAnyH_take (i := 9) (v := ?_) rfl (by kernel_rfl) (by kernel_rfl) (by kernel_rfl) (fun _ _ _ h => h) (Or.inl ⟨by rfl, ?_⟩) hHeld ?_
      rotate_left
      · intro wq hSw
        try dsimp only at hSw
        go_simp
        try rw [if_neg (by omega)]
        try rw [if_pos (by omega)]
        try with_reducible rfl
      try simp only [Act.put, List.setIfInBounds_toArray, List.set_cons_zero, List.set_cons_succ]
      refine wpAnyH_take (i := 10) (v := ?_) rfl (by kernel_rfl) (by kernel_rfl) (by kernel_rfl) (fun _ _ _ h => h) (Or.inl ⟨by rfl, ?_⟩) hHeld ?_
      rotate_left
      · intro wq hSw
        try dsimp only at hSw
        go_simp
        try rw [if_neg (by omega)]
        try rw [if_pos (by omega)]
        try with_reducible rfl
      try simp only [Act.put, List.setIfInBounds_toArray, List.set_cons_zero, List.set_cons_succ]
      refine wpAnyH_take (i := 11) (v := ?_) rfl (by kernel_rfl) (by kernel_rfl) (by kernel_rfl) (fun _ _ _ h => h) (Or.inl ⟨by rfl, ?_⟩) hHeld ?_
      rotate_left
      · intro wq hSw
        try dsimp only at hSw
        go_simp
        try rw [if_neg (by omega)]
        try rw [if_pos (by omega)]
        try with_reducible rfl
      try simp only [Act.put, List.setIfInBounds_toArray, List.set_cons_zero, List.set_cons_succ]
      refine wpAnyH_take (i := 12) (v := ?_) rfl (by kernel_rfl) (by kernel_rfl) (by kernel_rfl) (fun _ _ _ h => h) (Or.inl ⟨by rfl, ?_⟩) hHeld ?_
      rotate_left
      · intro wq hSw
        try dsimp only at hSw
        go_simp
        try rw [if_neg (by omega)]
        try rw [if_pos (by omega)]
        try with_reducible rfl
      try simp only [Act.put, List.setIfInBounds_toArray, List.set_cons_zero, List.set_cons_succ]
      refine wpAnyH_take (i := 13) (v := ?_) rfl (by kernel_rfl) (by kernel_rfl) (by kernel_rfl) (fun _ _ _ h => h) (Or.inl ⟨by rfl, ?_⟩) hHeld ?_
      rotate_left
      · intro wq hSw
        try dsimp only at hSw
        go_simp
        try rw [if_neg (by omega)]
        try rw [if_pos (by omega)]
        try with_reducible rfl
      try simp only [Act.put, List.setIfInBounds_toArray, List.set_cons_zero, List.set_cons_succ]
      refine wpAnyH_take (i := 14) (v := ?_) rfl (by kernel_rfl) (by kernel_rfl) (by kernel_rfl) (fun _ _ _ h => h) (Or.inl ⟨by rfl, ?_⟩) hHeld ?_
      rotate_left
      · intro wq hSw
        try dsimp only at hSw
        go_simp
        try rw [if_neg (by omega)]
        try rw [if_pos (by omega)]
        try with_reducible rfl
      try simp only [Act.put, List.setIfInBounds_toArray, List.set_cons_zero, List.set_cons_succ]
      refine wpAnyH_take (i := 15) (v := ?_) rfl (by kernel_rfl) (by kernel_rfl) (by kernel_rfl) (fun _ _ _ h => h) (Or.inl ⟨by rfl, ?_⟩) hHeld ?_
      rotate_left
      · intro wq hSw
        try dsimp only at hSw
        go_simp
        try rw [if_neg (by omega)]
        try rw [if_pos (by omega)]
        try with_reducible rfl
      try simp only [Act.put, List.setIfInBounds_toArray, List.set_cons_zero, List.set_cons_succ]
      refine wpAnyH_done (by kernel_rfl) ?_ _
      have hpl := lt_of_block hpg
      have hel := lt_of_block hent
      have hce := blk_cell hent 0
      have hfe := blk_free hent 0
      have hcr := blk_cell hres 0
      have hrl := lt_of_block hres
      have hma := fun W => may_any E W
      change wr.cell? ⟨w.heap.size + 2, 0, none⟩ = some v at hce
      by_cases hmay : mayP E
      · have hmb : mayB E = true := decide_eq_true hmay
        rw [hmb] at hma
        go_wp2_with fail
        with_reducible refine (hma _).mono ?_
        rintro e w3 ⟨rfl, hw3⟩
        subst hw3
        go_wp2_with (at_builtin; refine wpList_append_lies _ rfl (.tmp 53) (.tmp 55) _ rfl (w.heap.size + 3) 3 i0 (.int .i64 0) 1 8 Tryz.underlying45 hif hz0 hz1 hz2 rfl (by decide) v j (ints (ents l j)) rfl (hown.drew.alloc _) ⟨wr.heap.size, 0, none⟩ 1 1 [.int .i64 E] rfl rfl (cells_new _ _ (by first | rfl | simp) [.int .i64 E] _) (by intro u hu; simp at hu; subst hu; rfl) (by omega) (by unfold maxLen; omega) (by omega) (by simp; omega) _ rfl ?_; intro gg cg w4 hown4 hgrow hat hgg; have hpg4 := keep_grown (W := (wr.alloc (.cells #[.int .i64 E] 3)).drew) hown hgrow (by omega) (hal hpg); have hres4 := keep_grown (W := (wr.alloc (.cells #[.int .i64 E] 3)).drew) hown hgrow (by omega) (hal hres); have hent4 := keep_grown (W := (wr.alloc (.cells #[.int .i64 E] 3)).drew) hown hgrow (by omega) (hal hent); have hel4 := lt_of_block hent4; have hce4 := blk_cell hent4 0; have hfe4 := blk_free hent4 0; clear hce hfe hel hpl hcr hrl hzp hc3)
        go_roundw
        case rel =>
          have hrel' : ∃ (j' : Nat) (v' : Value), Value.int .i64 ((j : Int) + 1) = .int .i64 j' ∧ j' ≤ n ∧ (w4.setCell ⟨w.heap.size + 2, 0, none⟩ (.slice (some ⟨gg, 0, none⟩) (j + 1) cg)).heap[w.heap.size]? = some (.cells #[.int .i64 1, .int .i64 d, .int .i64 x, .string S] 113 (0, 0)) ∧ (w4.setCell ⟨w.heap.size + 2, 0, none⟩ (.slice (some ⟨gg, 0, none⟩) (j + 1) cg)).heap[w.heap.size + 1]? = some (.cells #[.slice none 0 0, .int .i64 0] 248 (0, 0)) ∧ (w4.setCell ⟨w.heap.size + 2, 0, none⟩ (.slice (some ⟨gg, 0, none⟩) (j + 1) cg)).heap[w.heap.size + 2]? = some (.cells #[v', .int .i64 0] 248 (0, 0)) ∧ (w4.setCell ⟨w.heap.size + 2, 0, none⟩ (.slice (some ⟨gg, 0, none⟩) (j + 1) cg)).ownsRow (w.heap.size + 3) 3 1 v' j' (ints (ents l j')) ∧ Below w.heap.size w (w4.setCell ⟨w.heap.size + 2, 0, none⟩ (.slice (some ⟨gg, 0, none⟩) (j + 1) cg)) ∧ Hid (∀ i, i < j' → mayP (ent l i)) := by
            refine ⟨j + 1, _, by go_num, by omega, (heap_setCell_other _ _ _ _ (show w.heap.size ≠ w.heap.size + 2 by omega)).trans hpg4, (heap_setCell_other _ _ _ _ (show w.heap.size + 1 ≠ w.heap.size + 2 by omega)).trans hres4, heap_setCell_same w4 (w.heap.size + 2) 0 _ _ _ hent4, ?_, ?_, Lib.hid (fun i hi => ?_)⟩
            · rw [ents_succ, ← HE.out]
              simpa [ints] using ownsRow_setCell_below hown4 (a := ⟨w.heap.size + 2, 0, none⟩) (show w.heap.size + 2 < w.heap.size + 3 by omega) _
            · exact below_set (below_grown (below_dr (below_al hbel _)) (by have := hbel.size; show _ ≤ (wr.alloc _).heap.size; simp; omega) (own_weaken hown (by omega)) hgrow) (by omega)
            · rcases Nat.lt_or_eq_of_le (Nat.le_of_lt_succ hi) with h | h
              · exact hmays.out i h
              · rw [h, ← HE.out]; exact hmay
          first | exact hrel' | ((repeat apply Exists.intro); exact ⟨hrel', rfl⟩)
        case measure => simp [intOf]; omega
      · have hmb : mayB E = false := decide_eq_false hmay
        have hno : Hid (∀ n', ¬ IsDir 1 d l n') := fun n' hd => hmay (by rw [HE.out]; exact hd.may j (by rw [hd.size, ← Hn.out]; exact hlt))
        rw [hmb] at hma
        clear hown hce hfe hel hent
        have hcrs := blk_cell hres
        have hfrs := blk_free hres
        go_wp2_with fail
        with_reducible refine (hma _).mono ?_
        rintro e w3 ⟨rfl, hw3⟩
        subst hw3
        clear hma hcr
        go_wp2
        have hW : (((wr.setCell ⟨w.heap.size + 1, 0, none⟩ (.slice none 0 0)).setCell ⟨w.heap.size + 1, 1, none⟩ (.int .i64 0)).drew).heap[w.heap.size + 1]? = some (.cells #[.slice none 0 0, .int .i64 0] 248 (0, 0)) := set2_same hres _ _
        have hB : Below w.heap.size w (((wr.setCell ⟨w.heap.size + 1, 0, none⟩ (.slice none 0 0)).setCell ⟨w.heap.size + 1, 1, none⟩ (.int .i64 0)).drew) := below_dr (below_set (below_set hbel (by omega)) (by omega))
        generalize (((wr.setCell ⟨w.heap.size + 1, 0, none⟩ (.slice none 0 0)).setCell ⟨w.heap.size + 1, 1, none⟩ (.int .i64 0)).drew) = W' at *
        have k0 := blk_cell hW 0
        have k1 := blk_cell hW 1
        clear hW hcrs
        refine bodyPost_ret (v := .tuple #[.agg #[.slice none 0 0, .int .i64 0], .bool false]) (by simp [results, Tryz.results187, go_sem, k0, k1]) rfl (.inr ⟨hno.out, rfl, hB⟩)
    · obtain rfl : j = n := by omega
      have hc1 := blk_cell hpg 1
      change wr.cell? ⟨w.heap.size, 1, none⟩ = some (.int .i64 d) at hc1
      obtain ⟨M, hM⟩ : ∃ M, M = 2 * j := ⟨_, rfl⟩
      rw [← hM] at hsh2
      have hsh3 : IntKind.i64.wrap (2 * 2 ^ d.toNat) = (M : Int) := by rw [hM]; exact Hsh3.out
      have m1 : (M : Int) ≤ 240 := by omega
      have m2 : M ≤ 240 := by omega
      have htr := fun W => Tryz.strings_Trim_one (S.extract M 240) 0 (by decide) W (by rw [ByteArray.size_extract]; omega)
      have hdt : (S.extract M 240).data.toList = l.drop M := by
        rw [HS.out, Lib.extract_mk, List.take_of_length_le (by rw [List.length_drop, Hl.out]; omega)]
      rw [hdt] at htr
      obtain ⟨T, hT⟩ : ∃ T, T = Lib.trimB (l.drop M) 0 := ⟨_, rfl⟩
      rw [← hT] at htr
      have HT := Lib.hid hT
      have HM := Lib.hid hM
      clear hdt hT hM
      obtain ⟨gg, cg, rfl, hgg, hggl⟩ := hown.form (by omega)
      rcases T with _ | ⟨t0, ts⟩
      · have hdir : Hid (IsDir 1 d l j) := ⟨rfl, h0, h5, Hl.out, Hn.out, hmays.out, by rw [← HM.out]; exact (trimB_nil _ _).1 HT.out.symm⟩
        go_wp2_with fail
        refine wp_region_held_drew (S := fun w' => w'.cell? ⟨w.heap.size, 1, none⟩ = some (.int .i64 d) ∧ w'.cell? ⟨w.heap.size, 3, none⟩ = some (.string S)) (by kernel_rfl) (⟨hc1, hc3⟩) (fun hHeld => ?_)
        refine wpAnyH_take (i := 0) (v := ?_) rfl (by kernel_rfl) (by kernel_rfl) (by kernel_rfl) (fun _ _ _ h => h) (Or.inl ⟨by rfl, ?_⟩) hHeld ?_
        rotate_left
        · intro wq hSw
          try dsimp only at hSw
          go_simp
          try rw [if_neg (by omega)]
          try rw [if_pos (by omega)]
          try with_reducible rfl
        try simp only [Act.put, List.setIfInBounds_toArray, List.set_cons_zero, List.set_cons_succ]
        refine wpAnyH_take (i := 1) (v := ?_) rfl (by kernel_rfl) (by kernel_rfl) (by kernel_rfl) (fun _ _ _ h => h) (Or.inl ⟨by rfl, ?_⟩) hHeld ?_
        rotate_left
        · intro wq hSw
          try dsimp only at hSw
          go_simp
          try rw [if_neg (by omega)]
          try rw [if_pos (by omega)]
          try with_reducible rfl
        try simp only [Act.put, List.setIfInBounds_toArray, List.set_cons_zero, List.set_cons_succ]
        refine wpAnyH_take (i := 2) (v := ?_) rfl (by kernel_rfl) (by kernel_rfl) (by kernel_rfl) (fun _ _ _ h => h) (Or.inl ⟨by rfl, ?_⟩) hHeld ?_
        rotate_left
        · intro wq hSw
          try dsimp only at hSw
          go_simp
          try rw [if_neg (by omega)]
          try rw [if_pos (by omega)]
          try with_reducible rfl
        try simp only [Act.put, List.setIfInBounds_toArray, List.set_cons_zero, List.set_cons_succ]
        refine wpAnyH_take (i := 3) (v := ?_) rfl (by kernel_rfl) (by kernel_rfl) (by kernel_rfl) (fun _ _ _ h => h) (Or.inl ⟨by rfl, ?_⟩) hHeld ?_
        rotate_left
        · intro wq hSw
          try dsimp only at hSw
          go_simp
          try rw [if_neg (by omega)]
          try rw [if_pos (by omega)]
          try with_reducible rfl
        try simp only [Act.put, List.setIfInBounds_toArray, List.set_cons_zero, List.set_cons_succ]
        refine wpAnyH_take (i := 4) (v := ?_) rfl (by kernel_rfl) (by kernel_rfl) (by kernel_rfl) (fun _ _ _ h => h) (Or.inl ⟨by rfl, ?_⟩) hHeld ?_
        rotate_left
        · intro wq hSw
          try dsimp only at hSw
          go_simp
          try rw [if_neg (by omega)]
          try rw [if_pos (by omega)]
          try with_reducible rfl
        try simp only [Act.put, List.setIfInBounds_toArray, List.set_cons_zero, List.set_cons_succ]
        refine wpAnyH_take (i := 5) (v := ?_) rfl (by kernel_rfl) (by kernel_rfl) (by kernel_rfl) (fun _ _ _ h => h) (Or.inl ⟨by rfl, ?_⟩) hHeld ?_
        rotate_left
        · intro wq hSw
          try dsimp only at hSw
          go_simp
          try rw [if_neg (by omega)]
          try rw [if_pos (by omega)]
          try with_reducible rfl
        try simp only [Act.put, List.setIfInBounds_toArray, List.set_cons_zero, List.set_cons_succ]
        refine wpAnyH_ready (rs := [6]) (by kernel_rfl) (by simp) ?_
        refine AllReadyH.cons rfl (fun K hK => ?_) AllReadyH.nil
        go_simp
        with_reducible refine (htr _).mono ?_
        rintro e w3 ⟨rfl, hw3⟩
        dsimp only
        have hk7 : w3.cell? ⟨w.heap.size, 1, none⟩ = some (.int .i64 d) ∧ w3.cell? ⟨w.heap.size, 3, none⟩ = some (.string S) := by
          rcases hw3 with rfl | rfl
          · exact hHeld
          · exact hHeld
        refine hK.out _ _ (hk7) (fun hHeld2 => ?_)
        clear hK K
        try clear hHeld
        have hHeld := hHeld2
        try clear hHeld2
        refine wpAnyH_take (i := 7) (v := ?_) rfl (by kernel_rfl) (by kernel_rfl) (by kernel_rfl) (fun _ _ _ h => h) (Or.inl ⟨by rfl, ?_⟩) hHeld ?_
        rotate_left
        · intro wq hSw
          try dsimp only at hSw
          go_simp
          try rw [if_neg (by omega)]
          try rw [if_pos (by omega)]
          try with_reducible rfl
        try simp only [Act.put, List.setIfInBounds_toArray, List.set_cons_zero, List.set_cons_succ]
        refine wpAnyH_done (by kernel_rfl) ?_ _
        have h3 : w3.heap[w.heap.size + 1]? = some (.cells #[.slice none 0 0, .int .i64 0] 248 (0, 0)) ∧ w3.heap[w.heap.size + 2]? = some (.cells #[.slice (some ⟨gg, 0, none⟩) j cg, .int .i64 0] 248 (0, 0)) ∧ Below w.heap.size w w3 ∧ w3.ownsRow (w.heap.size + 3) 3 1 (.slice (some ⟨gg, 0, none⟩) j cg) j (ints (ents l j)) ∧ gg < w3.heap.size := by
          rcases hw3 with rfl | rfl
          · exact ⟨hres, hent, below_dr hbel, hown, hggl⟩
          · exact ⟨hres, hent, below_dr (below_dr hbel), hown, hggl⟩
        obtain ⟨hres3, hent3, hbel3, hown3, hgg3⟩ := h3
        have hce := blk_cell hent3
        have hcs := blk_cell hres3
        have hfs := blk_free hres3
        have hl3 := lt_of_block hres3
        have hl4 := lt_of_block hent3
        clear hw3 htr hres hent hbel hown hggl hc1 hc3 hHeld hk7 hpg hzp
        go_wp2
        have hW : ((w3.setCell ⟨w.heap.size + 1, 0, none⟩ (.slice (some ⟨gg, 0, none⟩) j cg)).setCell ⟨w.heap.size + 1, 1, none⟩ (.int .i64 0)).heap[w.heap.size + 1]? = some (.cells #[.slice (some ⟨gg, 0, none⟩) j cg, .int .i64 0] 248 (0, 0)) := set2_same hres3 _ _
        have hB : Below w.heap.size w ((w3.setCell ⟨w.heap.size + 1, 0, none⟩ (.slice (some ⟨gg, 0, none⟩) j cg)).setCell ⟨w.heap.size + 1, 1, none⟩ (.int .i64 0)) := below_set (below_set hbel3 (by omega)) (by omega)
        have hO := ownsRow_setCell_below (ownsRow_setCell_below hown3 (a := ⟨w.heap.size + 1, 0, none⟩) (show w.heap.size + 1 < w.heap.size + 3 by omega) (.slice (some ⟨gg, 0, none⟩) j cg)) (a := ⟨w.heap.size + 1, 1, none⟩) (show w.heap.size + 1 < w.heap.size + 3 by omega) (.int .i64 0)
        have hG : gg < ((w3.setCell ⟨w.heap.size + 1, 0, none⟩ (.slice (some ⟨gg, 0, none⟩) j cg)).setCell ⟨w.heap.size + 1, 1, none⟩ (.int .i64 0)).heap.size := by simpa using hgg3
        clear hown3 hbel3 hres3 hent3 hcs hfs hce
        generalize ((w3.setCell ⟨w.heap.size + 1, 0, none⟩ (.slice (some ⟨gg, 0, none⟩) j cg)).setCell ⟨w.heap.size + 1, 1, none⟩ (.int .i64 0)) = W' at *
        have k0 := blk_cell hW 0
        have k1 := blk_cell hW 1
        clear hW
        refine bodyPost_ret (v := .tuple #[.agg #[.slice (some ⟨gg, 0, none⟩) j cg, .int .i64 0], .bool true]) (by simp [results, Tryz.results187, go_sem, k0, k1]) rfl (.inl ⟨j, gg, cg, hdir.out, rfl, own_weaken hO (by omega), hG, by omega, hB⟩)
      · have hno : Hid (∀ n', ¬ IsDir 1 d l n') := fun n' hd => by
          have h1 := hd.rest
          rw [hd.size, ← Hn.out, ← HM.out] at h1
          have := (trimB_nil (l.drop M) 0).2 h1
          rw [← HT.out] at this
          cases this
        go_wp2_with fail
        refine wp_region_held_drew (S := fun w' => w'.cell? ⟨w.heap.size, 1, none⟩ = some (.int .i64 d) ∧ w'.cell? ⟨w.heap.size, 3, none⟩ = some (.string S)) (by kernel_rfl) (⟨hc1, hc3⟩) (fun hHeld => ?_)
        refine wpAnyH_take (i := 0) (v := ?_) rfl (by kernel_rfl) (by kernel_rfl) (by kernel_rfl) (fun _ _ _ h => h) (Or.inl ⟨by rfl, ?_⟩) hHeld ?_
        rotate_left
        · intro wq hSw
          try dsimp only at hSw
          go_simp
          try rw [if_neg (by omega)]
          try rw [if_pos (by omega)]
          try with_reducible rfl
        try simp only [Act.put, List.setIfInBounds_toArray, List.set_cons_zero, List.set_cons_succ]
        refine wpAnyH_take (i := 1) (v := ?_) rfl (by kernel_rfl) (by kernel_rfl) (by kernel_rfl) (fun _ _ _ h => h) (Or.inl ⟨by rfl, ?_⟩) hHeld ?_
        rotate_left
        · intro wq hSw
          try dsimp only at hSw
          go_simp
          try rw [if_neg (by omega)]
          try rw [if_pos (by omega)]
          try with_reducible rfl
        try simp only [Act.put, List.setIfInBounds_toArray, List.set_cons_zero, List.set_cons_succ]
        refine wpAnyH_take (i := 2) (v := ?_) rfl (by kernel_rfl) (by kernel_rfl) (by kernel_rfl) (fun _ _ _ h => h) (Or.inl ⟨by rfl, ?_⟩) hHeld ?_
        rotate_left
        · intro wq hSw
          try dsimp only at hSw
          go_simp
          try rw [if_neg (by omega)]
          try rw [if_pos (by omega)]
          try with_reducible rfl
        try simp only [Act.put, List.setIfInBounds_toArray, List.set_cons_zero, List.set_cons_succ]
        refine wpAnyH_take (i := 3) (v := ?_) rfl (by kernel_rfl) (by kernel_rfl) (by kernel_rfl) (fun _ _ _ h => h) (Or.inl ⟨by rfl, ?_⟩) hHeld ?_
        rotate_left
        · intro wq hSw
          try dsimp only at hSw
          go_simp
          try rw [if_neg (by omega)]
          try rw [if_pos (by omega)]
          try with_reducible rfl
        try simp only [Act.put, List.setIfInBounds_toArray, List.set_cons_zero, List.set_cons_succ]
        refine wpAnyH_take (i := 4) (v := ?_) rfl (by kernel_rfl) (by kernel_rfl) (by kernel_rfl) (fun _ _ _ h => h) (Or.inl ⟨by rfl, ?_⟩) hHeld ?_
        rotate_left
        · intro wq hSw
          try dsimp only at hSw
          go_simp
          try rw [if_neg (by omega)]
          try rw [if_pos (by omega)]
          try with_reducible rfl
        try simp only [Act.put, List.setIfInBounds_toArray, List.set_cons_zero, List.set_cons_succ]
        refine wpAnyH_take (i := 5) (v := ?_) rfl (by kernel_rfl) (by kernel_rfl) (by kernel_rfl) (fun _ _ _ h => h) (Or.inl ⟨by rfl, ?_⟩) hHeld ?_
        rotate_left
        · intro wq hSw
          try dsimp only at hSw
          go_simp
          try rw [if_neg (by omega)]
          try rw [if_pos (by omega)]
          try with_reducible rfl
        try simp only [Act.put, List.setIfInBounds_toArray, List.set_cons_zero, List.set_cons_succ]
        refine wpAnyH_ready (rs := [6]) (by kernel_rfl) (by simp) ?_
        refine AllReadyH.cons rfl (fun K hK => ?_) AllReadyH.nil
        go_simp
        with_reducible refine (htr _).mono ?_
        rintro e w3 ⟨rfl, hw3⟩
        dsimp only
        have hk7 : w3.cell? ⟨w.heap.size, 1, none⟩ = some (.int .i64 d) ∧ w3.cell? ⟨w.heap.size, 3, none⟩ = some (.string S) := by
          rcases hw3 with rfl | rfl
          · exact hHeld
          · exact hHeld
        refine hK.out _ _ (hk7) (fun hHeld2 => ?_)
        clear hK K
        try clear hHeld
        have hHeld := hHeld2
        try clear hHeld2
        refine wpAnyH_take (i := 7) (v := ?_) rfl (by kernel_rfl) (by kernel_rfl) (by kernel_rfl) (fun _ _ _ h => h) (Or.inl ⟨by rfl, ?_⟩) hHeld ?_
        rotate_left
        · intro wq hSw
          try dsimp only at hSw
          go_simp
          try rw [if_neg (by omega)]
          try rw [if_pos (by omega)]
          try with_reducible rfl
        try simp only [Act.put, List.setIfInBounds_toArray, List.set_cons_zero, List.set_cons_succ]
        refine wpAnyH_done (by kernel_rfl) ?_ _
        have h3 : w3.heap[w.heap.size + 1]? = some (.cells #[.slice none 0 0, .int .i64 0] 248 (0, 0)) ∧ w3.heap[w.heap.size + 2]? = some (.cells #[.slice (some ⟨gg, 0, none⟩) j cg, .int .i64 0] 248 (0, 0)) ∧ Below w.heap.size w w3 ∧ w3.ownsRow (w.heap.size + 3) 3 1 (.slice (some ⟨gg, 0, none⟩) j cg) j (ints (ents l j)) ∧ gg < w3.heap.size := by
          rcases hw3 with rfl | rfl
          · exact ⟨hres, hent, below_dr hbel, hown, hggl⟩
          · exact ⟨hres, hent, below_dr (below_dr hbel), hown, hggl⟩
        obtain ⟨hres3, hent3, hbel3, hown3, hgg3⟩ := h3
        have hce := blk_cell hent3
        have hcs := blk_cell hres3
        have hfs := blk_free hres3
        have hl3 := lt_of_block hres3
        have hl4 := lt_of_block hent3
        clear hw3 htr hres hent hbel hown hggl hc1 hc3 hHeld hk7 hpg hzp
        go_wp2
        clear hce hcs hfs
        have hW : (((w3.setCell ⟨w.heap.size + 1, 0, none⟩ (.slice none 0 0)).setCell ⟨w.heap.size + 1, 1, none⟩ (.int .i64 0))).heap[w.heap.size + 1]? = some (.cells #[.slice none 0 0, .int .i64 0] 248 (0, 0)) := set2_same hres3 _ _
        have hB : Below w.heap.size w (((w3.setCell ⟨w.heap.size + 1, 0, none⟩ (.slice none 0 0)).setCell ⟨w.heap.size + 1, 1, none⟩ (.int .i64 0))) := below_set (below_set hbel3 (by omega)) (by omega)
        generalize (((w3.setCell ⟨w.heap.size + 1, 0, none⟩ (.slice none 0 0)).setCell ⟨w.heap.size + 1, 1, none⟩ (.int .i64 0))) = W' at *
        have k0 := blk_cell hW 0
        have k1 := blk_cell hW 1
        clear hW
        refine bodyPost_ret (v := .tuple #[.agg #[.slice none 0 0, .int .i64 0], .bool false]) (by simp [results, Tryz.results187, go_sem, k0, k1]) rfl (.inr ⟨hno.out, rfl, hB⟩)
end Go.Proofs.YtijhamllnnilbaaGreatDoor.Dr
namespace Go.Proofs.YtijhamllnnilbaaGreatDoor.Pg
open Go.RowKit Go.Proofs.YtijhamllnnilbaaGreatDoor.Mem

set_option maxRecDepth 100000 in
theorem conv_one (W : World) (g c : Nat) (b : UInt8) (h : W.cell? ⟨g, 0, none⟩ = some (.int .u8 b.toNat)) :
    (convert 43 9 (.slice (some ⟨g, 0, none⟩) 1 c)).run Tryz.prog W = .ok (.string ⟨#[b]⟩) W := by
  have h0 : ∀ i, i < 1 → W.cell? ⟨g, 0 + i, none⟩ = some (.int .u8 ([(b.toNat : Int)].getD i 0)) := fun i hi => by
    obtain rfl : i = 0 := by omega
    simpa using h
  have := run_convert_bytes_arg (P := Tryz.prog) W 43 5 Tryz.underlying43 Tryz.underlying5 g 0 1 c [(b.toNat : Int)] rfl h0 9 Tryz.underlying9
  rw [this]
  simp [strOfNums]

theorem cut_set (l : List UInt8) (n : Nat) (b : UInt8) (hn : n < l.length) : (str l).extract 0 n ++ ⟨#[b]⟩ ++ (str l).extract (n + 1) (str l).size = str (l.set n b) := by
  apply ByteArray.ext
  apply Array.toList_inj.1
  simp [ByteArray.data_append, ByteArray.data_extract, str_size]
  rw [List.set_eq_take_append_cons_drop, if_pos hn, List.take_of_length_le (l := List.drop (n + 1) l) (by simp)]

set_option maxRecDepth 100000 in
theorem conv_zeros (W : World) (g n c : Nat) (h : ∀ i, i < n → W.cell? ⟨g, i, none⟩ = some (.int .u8 0)) :
    (convert 43 9 (.slice (some ⟨g, 0, none⟩) n c)).run Tryz.prog W = .ok (.string (str (zs n))) W := by
  have h0 : ∀ i, i < n → W.cell? ⟨g, 0 + i, none⟩ = some (.int .u8 ((List.replicate n (0 : Int)).getD i 0)) := fun i hi => by
    rw [Nat.zero_add, List.getD_eq_getElem?_getD, List.getElem?_replicate, if_pos hi]
    exact h i hi
  have := run_convert_bytes_arg (P := Tryz.prog) W 43 5 Tryz.underlying43 Tryz.underlying5 g 0 n c (List.replicate n (0 : Int)) (by simp) h0 9 Tryz.underlying9
  rw [this]
  congr 2
  simp [strOfNums, zs, str]

set_option maxRecDepth 100000 in
theorem made_cell (n i : Nat) (h : i < n) : (madeCells (Value.int .u8 0).cells n)[i]? = some (.int .u8 0) := by
  unfold madeCells
  simp [Value.cells, h, Nat.mod_one]

set_option maxRecDepth 100000 in
theorem make_zeros (n : Nat) (hn : n ≤ 1000) : ∃ A : Array Value, (∀ W : World, (Instr.makeSlice 43 (.int .i64 n) (.int .i64 n)).run Tryz.prog W = .ok (.slice (some ⟨W.heap.size, 0, none⟩) n n) (W.alloc (.cells A 5))) ∧
    ∀ W : World, (convert 43 9 (.slice (some ⟨W.heap.size, 0, none⟩) n n)).run Tryz.prog (W.alloc (.cells A 5)) = .ok (.string (str (zs n))) (W.alloc (.cells A 5)) := by
  refine ⟨madeCells (Value.int .u8 0).cells n, fun W => ?_, fun W => ?_⟩
  · have := run_makeSlice (P := Tryz.prog) W 43 5 Tryz.t5 (.int .u8 0) Tryz.underlying43 (by kernel_rfl) (by kernel_rfl) .i64 .i64 n n (by omega) (Int.le_refl _) (by show (n : Int).toNat * 1 ≤ _; omega) (by show ((1 : Nat) : Int) * n ≤ _; omega) (by omega)
    rw [this]
    simp only [Int.toNat_natCast]
    rw [show n * (Tryz.t5).size = n from Nat.mul_one n]
  · apply conv_zeros
    intro i hi
    rw [World.cell?_alloc_at _ _ _ _ rfl]
    exact made_cell n i hi

set_option maxRecDepth 100000 in
theorem refZeros_any (n : Nat) (w : World) (hn : n ≤ 1000) :
    Calls Tryz.prog 23 #[.int .i64 n] w fun e w' => e = .returned (.string (str (zs n))) ∧ Below w.heap.size w w' := by
  have hmax : max (n : Int) 0 = (n : Int) := by omega
  obtain ⟨A, hmk, hcv⟩ := make_zeros n hn
  generalize str (zs n) = z at *
  go_enter Tryz.func23, Tryz.ntmps23
  go_wp2
  go_ret
  exact ⟨rfl, below_al (Below.refl _ _) _⟩
end Go.Proofs.YtijhamllnnilbaaGreatDoor.Pg
