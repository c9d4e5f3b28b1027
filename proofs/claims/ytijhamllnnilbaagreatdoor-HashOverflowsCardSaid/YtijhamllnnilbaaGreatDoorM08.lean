/- Lemmas of the claim, in their order:
- copy(d, s) at elements of k cells, onto a block that is all there. No program in sight.
- Chapter 10 in plain Lean: the entries of a directory page. No program in sight.
- The contract of dir's may.
- The contract of dir's of: the entries of a page.
- The contract of dir's of, at every page.
- The contract of the entries' page.
- The contracts of space.Used, space.Give.
- The contract of the reference's Zeros.
- The library's table of blanks, off the row's condition.
-/
import Derived.Test.YtijhamllnnilbaaGreatDoorM01
import Derived.Laws.CopyRow
import Derived.Lib.TrimByte
import Derived.Deep.RegionHeld
import Derived.Laws.BytesArg
import Derived.Test.YtijhamllnnilbaaGreatDoorM03
import Derived.Test.YtijhamllnnilbaaGreatDoorM02
import Derived.Test.YtijhamllnnilbaaGreatDoorChecked
import Derived.ProofKit
import Derived.OpenShut
import Derived.Deep.Slices
import Derived.Deep.Fields
import Derived.Lib.SmallJoins
import Derived.Lib.LaidU8
set_option linter.unusedVariables false
set_option linter.unusedSimpArgs false
namespace Go.Proofs.YtijhamllnnilbaaGreatDoor.Ha
open Go.RowKit Go.Proofs.YtijhamllnnilbaaGreatDoor.Mem
theorem run_copy_k {P : Program} (k : Nat) (w : World) (dT sT ty elem : TypeId) (g o dLen dCap : Nat) (a : Addr) (sLen sCap : Nat) (cur : Array Value) (t : TypeId) (cs : List Value)
    (hu : P.underlying dT = some (.slice elem)) (hs : (P.info? elem).map (·.size) = some k)
    (hg : w.heap[g]? = some (.cells cur t (0, 0))) (hn : cs.length = Nat.min sLen dLen * k)
    (hsrc : ∀ j v, cs[j]? = some v → w.cell? (a.add j) = some v) (hfit : o + cs.length ≤ cur.size) (h1 : ∀ v ∈ cs, v.oneCell' = true) :
    (Builtin.copy_ #[dT, sT] ty #[.slice (some ⟨g, o, none⟩) dLen dCap, .slice (some a) sLen sCap]).run P w =
      .ok (goInt (Nat.min sLen dLen)) (w.setRow g (cur.toList.take o ++ cs ++ cur.toList.drop (o + cs.length)).toArray) := by
  have hl := run_loadCells_list (P := P) w a cs hsrc
  have hst := run_storeCells_at P g o t cs 0 cur w hg (by simpa using hfit) h1
  cases hq : P.info? elem with
  | none => simp [hq] at hs
  | some i =>
    have hi : i.size = k := by simpa [hq] using hs
    simp [Builtin.copy_, run_underlying hu, Builtin.lenOf, Builtin.firstCells, sizeOf, typeInfo, hq, hi, ← hn, hl, hst]
end Go.Proofs.YtijhamllnnilbaaGreatDoor.Ha
namespace Go.Proofs.YtijhamllnnilbaaGreatDoor.Dr
open Go.Proofs.YtijhamllnnilbaaGreatDoor.Pg

def bt (l : List UInt8) (i : Nat) : Int := (l.getD i 0).toNat
/-- The i-th entry of a body. -/
def ent (l : List UInt8) (i : Nat) : Int := bt l (2 * i) * 256 + bt l (2 * i + 1)
def ents (l : List UInt8) (n : Nat) : List Int := (List.range n).map fun i => ent l i
theorem ents_len (l : List UInt8) (n : Nat) : (ents l n).length = n := by simp [ents]
theorem ents_succ (l : List UInt8) (n : Nat) : ents l (n + 1) = ents l n ++ [ent l n] := by simp [ents, List.range_succ]
def mayP (x : Int) : Prop := 2 ≤ x ∧ x < 64
instance (x : Int) : Decidable (mayP x) := inferInstanceAs (Decidable (_ ∧ _))
def mayB (x : Int) : Bool := decide (mayP x)
theorem bt_range (l : List UInt8) (i : Nat) : 0 ≤ bt l i ∧ bt l i ≤ 255 := by
  have := (l.getD i 0).toNat_lt
  unfold bt
  omega
/-- A directory page: its depth's entries. -/
structure IsDir (k d : Int) (l : List UInt8) (n : Nat) : Prop where
  kind : k = 1
  lo : 0 ≤ d
  hi : d ≤ 5
  len : l.length = 240
  size : n = 2 ^ d.toNat
  may : ∀ i, i < n → mayP (ent l i)
  rest : ∀ c ∈ l.drop (2 * n), c = 0
theorem IsDir.le {k d : Int} {l : List UInt8} {n : Nat} (h : IsDir k d l n) : 1 ≤ n ∧ n ≤ 32 := by
  have h1 := h.lo
  have h2 := h.hi
  have h3 := h.size
  obtain ⟨m, rfl⟩ := Int.eq_ofNat_of_zero_le h1
  have : m ≤ 5 := by omega
  match m, this with
  | 0, _ | 1, _ | 2, _ | 3, _ | 4, _ | 5, _ => simp at h3; omega
end Go.Proofs.YtijhamllnnilbaaGreatDoor.Dr
namespace Go.Proofs.YtijhamllnnilbaaGreatDoor.Dr
open Go.RowKit Go.Proofs.YtijhamllnnilbaaGreatDoor.Mem Go.Proofs.YtijhamllnnilbaaGreatDoor.Pg

theorem may_any (x : Int) (w : World) : Calls Tryz.prog 163 #[.int .i64 x] w fun e w' => e = .returned (.bool (mayB x)) ∧ w' = w := by
  by_cases h1 : 2 ≤ x
  · by_cases h2 : x < 64
    · have hb : mayB x = true := decide_eq_true ⟨h1, h2⟩
      go_enter Tryz.func163, Tryz.ntmps163
      go_wp2
      go_ret
      exact ⟨by first | rfl | (rw [hb]; rfl), rfl⟩
    · have hb : mayB x = false := decide_eq_false (fun h => h2 h.2)
      go_enter Tryz.func163, Tryz.ntmps163
      go_wp2
      go_ret
      exact ⟨by first | rfl | (rw [hb]; rfl), rfl⟩
  · have hb : mayB x = false := decide_eq_false (fun h => h1 h.1)
    go_enter Tryz.func163, Tryz.ntmps163
    go_wp2
    go_ret
    exact ⟨by first | rfl | (rw [hb]; rfl), rfl⟩
end Go.Proofs.YtijhamllnnilbaaGreatDoor.Dr
namespace Go.Proofs.YtijhamllnnilbaaGreatDoor.Dr
open Go.RowKit Go.Proofs.YtijhamllnnilbaaGreatDoor.Mem Go.Proofs.YtijhamllnnilbaaGreatDoor.Pg

theorem dropWhile_nil {α : Type} (p : α → Bool) : ∀ l : List α, l.dropWhile p = [] ↔ ∀ x ∈ l, p x = true
  | [] => by simp
  | a :: l => by
    by_cases h : p a = true
    · simp [h, dropWhile_nil p l]
    · simp [h]
theorem trimB_nil (l : List UInt8) (c : UInt8) : Lib.trimB l c = [] ↔ ∀ x ∈ l, x = c := by
  unfold Lib.trimB Lib.trimLeftB Lib.trimRightB
  rw [dropWhile_nil]
  constructor
  · intro h x hx
    have h0 : l.reverse.dropWhile (· == c) = [] := by
      rcases hd : l.reverse.dropWhile (· == c) with _ | ⟨y, ys⟩
      · rfl
      · have h1 := List.head_dropWhile_not (fun x => x == c) (l := l.reverse) (by rw [hd]; simp)
        have h2 := h y (by rw [hd]; simp)
        simp [hd] at h1
        simp at h2
        exact absurd h2 h1
    rw [dropWhile_nil] at h0
    simpa using h0 x (by simpa using hx)
  · intro h x hx
    have h0 : l.reverse.dropWhile (· == c) = [] := by
      rw [dropWhile_nil]
      intro y hy
      simpa using h y (by simpa using hy)
    rw [h0] at hx
    simp at hx
theorem info_int : (Tryz.prog.info? 3).map (fun i => (i.zero, i.size, i.bytes)) = some (some (.int .i64 0), 1, 8) := by kernel_rfl

def OfPost (w : World) (k d : Int) (l : List UInt8) (e : Ending) (w' : World) : Prop :=
  (∃ n g cap, IsDir k d l n ∧ e = .returned (.tuple #[.agg #[.slice (some ⟨g, 0, none⟩) n cap, .int .i64 0], .bool true]) ∧ w'.ownsRow w.heap.size 3 1 (.slice (some ⟨g, 0, none⟩) n cap) n (ints (ents l n)) ∧ g < w'.heap.size ∧ w.heap.size ≤ g ∧ Below w.heap.size w w') ∨
  ((∀ n, ¬ IsDir k d l n) ∧ e = .returned (.tuple #[.agg #[.slice none 0 0, .int .i64 0], .bool false]) ∧ Below w.heap.size w w')

set_option maxRecDepth 100000 in
set_option maxHeartbeats 4000000 in
theorem of_head (k d x : Int) (l : List UInt8) (w : World) (h : k ≠ 1 ∨ d < 0 ∨ 5 < d ∨ l.length ≠ 240) :
    Calls Tryz.prog 187 #[.agg #[.int .i64 k, .int .i64 d, .int .i64 x, .string (str l)]] w (OfPost w k d l) := by
  have hno : ∀ n, ¬ IsDir k d l n := fun n hd => by
    have := hd.kind; have := hd.lo; have := hd.hi; have := hd.len
    omega
  have hsz := str_size l
  have Hno := Lib.hid hno
  clear hno
  obtain ⟨S, hS⟩ : ∃ S, S = str l := ⟨_, rfl⟩
  rw [← hS] at hsz ⊢
  generalize l.length = L at *
  clear hS
  rcases (show k ≠ 1 ∨ k = 1 ∧ (d < 0 ∨ ¬ d < 0 ∧ (5 < d ∨ ¬ 5 < d ∧ L ≠ 240)) from by omega) with h1 | ⟨h1, h2 | ⟨h2, h3 | ⟨h3, h4⟩⟩⟩
  · have d1 : (k != 1) = true := by simpa using h1
    clear h
    go_enter Tryz.func187, Tryz.ntmps187
    go_wp2
    refine bodyPost_ret (v := .tuple #[.agg #[.slice none 0 0, .int .i64 0], .bool false]) (by simp [results, Tryz.results187, go_sem]) rfl (.inr ⟨Hno.out, rfl, below_al (below_al (Below.refl _ w) _) _⟩)
  · subst h1
    clear h
    go_enter Tryz.func187, Tryz.ntmps187
    go_wp2
    refine bodyPost_ret (v := .tuple #[.agg #[.slice none 0 0, .int .i64 0], .bool false]) (by simp [results, Tryz.results187, go_sem]) rfl (.inr ⟨Hno.out, rfl, below_al (below_al (Below.refl _ w) _) _⟩)
  · subst h1
    clear h
    go_enter Tryz.func187, Tryz.ntmps187
    go_wp2
    refine bodyPost_ret (v := .tuple #[.agg #[.slice none 0 0, .int .i64 0], .bool false]) (by simp [results, Tryz.results187, go_sem]) rfl (.inr ⟨Hno.out, rfl, below_al (below_al (Below.refl _ w) _) _⟩)
  · subst h1
    have d4 : ((L : Int) != 240) = true := by simp; omega
    clear h
    go_enter Tryz.func187, Tryz.ntmps187
    go_wp2
    refine bodyPost_ret (v := .tuple #[.agg #[.slice none 0 0, .int .i64 0], .bool false]) (by simp [results, Tryz.results187, go_sem]) rfl (.inr ⟨Hno.out, rfl, below_al (below_al (Below.refl _ w) _) _⟩)

theorem str_bt (l : List UInt8) (i : Nat) (h : i < (str l).size) : (((str l)[i]'h).toNat : Int) = bt l i := by
  have h' : i < l.length := by rw [← str_size l]; exact h
  unfold bt
  rw [List.getD_eq_getElem?_getD, List.getElem?_eq_getElem h', Option.getD_some]
  rfl
theorem or_code {A B : Int} (hA : 0 ≤ A ∧ A ≤ 255) (hB : 0 ≤ B ∧ B ≤ 255) : bits .or .i64 (A * 256) B = A * 256 + B := by
  obtain ⟨a, rfl⟩ := Int.eq_ofNat_of_zero_le hA.1
  obtain ⟨b, rfl⟩ := Int.eq_ofNat_of_zero_le hB.1
  have e : ((a : Int) * 256) = ((a * 256 : Nat) : Int) := by omega
  rw [e]
  have h1 : (BitVec.ofInt 64 ((a * 256 : Nat) : Int)).toNat = a * 256 := by
    rw [BitVec.ofInt_natCast, BitVec.toNat_ofNat]; exact Nat.mod_eq_of_lt (by omega)
  have h2 : (BitVec.ofInt 64 (b : Int)).toNat = b := by
    rw [BitVec.ofInt_natCast, BitVec.toNat_ofNat]; exact Nat.mod_eq_of_lt (by omega)
  have h3 : a * 256 ||| b = a * 256 + b := by
    have := Nat.shiftLeft_add_eq_or_of_lt (i := 8) (show b < 2 ^ 8 by omega) a
    rw [Nat.shiftLeft_eq, show (2 : Nat) ^ 8 = 256 from rfl] at this
    omega
  show IntKind.i64.wrap ((BitVec.ofInt 64 ((a * 256 : Nat) : Int) ||| BitVec.ofInt 64 (b : Int)).toNat : Int) = _
  rw [BitVec.toNat_or, h1, h2, h3, IntWalk.i64_in _ (by omega)]
  omega
theorem own_weaken {w : World} {base base' : Nat} {e : TypeId} {size n : Nat} {v : Value} {xs : List Value} (h : w.ownsRow base e size v n xs) (hb : base' ≤ base) : w.ownsRow base' e size v n xs := by
  refine ⟨h.1, ?_⟩
  rcases h.2 with h | ⟨g, c, cur, h1, h2, h3⟩
  · exact .inl h
  · exact .inr ⟨g, c, cur, h1, Nat.le_trans hb h2, h3⟩

set_option maxRecDepth 100000 in
set_option maxHeartbeats 4000000 in
theorem of_body (d x : Int) (l : List UInt8) (n : Nat) (w : World) (h0 : 0 ≤ d) (h5 : d ≤ 5) (hl : l.length = 240) (hn : n = 2 ^ d.toNat) (hn1 : 1 ≤ n) (hn2 : n ≤ 32) (hsh : wrap64 (2 ^ d.toNat) = (n : Int)) (hsh2 : wrap64 (2 * 2 ^ d.toNat) = ((2 * n : Nat) : Int)) (hsh3 : IntKind.i64.wrap (2 * 2 ^ d.toNat) = ((2 * n : Nat) : Int)) :
    Calls Tryz.prog 187 #[.agg #[.int .i64 1, .int .i64 d, .int .i64 x, .string (str l)]] w (OfPost w 1 d l) := by
  have hsz := str_size l
  rw [hl] at hsz
  obtain ⟨S, hS⟩ : ∃ S, S = str l := ⟨_, rfl⟩
  rw [← hS] at hsz ⊢
  have hbt : ∀ (i : Nat) (h : i < S.size), ((S[i]'h).toNat : Int) = bt l i := by rw [hS]; exact str_bt l
  obtain ⟨i0, hif, hz0, hz1, hz2⟩ := info_parts info_int
  have Hsh3 := Lib.hid hsh3
  clear hsh3
  have HS := Lib.hid hS
  have Hl := Lib.hid hl
  have Hn := Lib.hid hn
  have Hbt := Lib.hid hbt
  clear hS hl hn hbt
  go_enter Tryz.func187, Tryz.ntmps187
  go_wp2_with fail
  rw [hsh]
  go_loopw [30] (fun i wr => ∃ (j : Nat) (v : Value), i = .int .i64 j ∧ j ≤ n ∧ wr.heap[w.heap.size]? = some (.cells #[.int .i64 1, .int .i64 d, .int .i64 x, .string S] 113 (0, 0)) ∧ wr.heap[w.heap.size + 1]? = some (.cells #[.slice none 0 0, .int .i64 0] 248 (0, 0)) ∧ wr.heap[w.heap.size + 2]? = some (.cells #[v, .int .i64 0] 248 (0, 0)) ∧ wr.ownsRow (w.heap.size + 3) 3 1 v j (ints (ents l j)) ∧ Below w.heap.size w wr ∧ Hid (∀ i, i < j → mayP (ent l i))) (fun i _ => n - (intOf i).toNat)
  case atStart =>
    refine ⟨0, .slice none 0 0, rfl, Nat.zero_le _, hal (hal (heap_alloc_new w _)), hal ?_, ?_, World.ownsRow_nil _ _ _ _, below_al (below_al (below_al (Below.refl _ w) _) _) _, Lib.hid (fun i hi => absurd hi (by omega))⟩
    · have := heap_alloc_new (w.alloc (.cells #[.int .i64 1, .int .i64 d, .int .i64 x, .string S] 113)) (.cells #[.slice none 0 0, .int .i64 0] 248)
      simpa using this
    · have := heap_alloc_new ((w.alloc (.cells #[.int .i64 1, .int .i64 d, .int .i64 x, .string S] 113)).alloc (.cells #[.slice none 0 0, .int .i64 0] 248)) (.cells #[.slice none 0 0, .int .i64 0] 248)
      simpa using this
  case round =>
    obtain ⟨j, v, rfl, hj, hpg, hres, hent, hown, hbel, hmays⟩ := hrel
    have hc3 := blk_cell hpg 3
    have hzp := lt_of_block hpg
    change wr.cell? ⟨w.heap.size, 3, none⟩ = some (.string S) at hc3
    by_cases hlt : j < n
    · obtain ⟨J2, hJ2⟩ : ∃ J2, J2 = 2 * j := ⟨_, rfl⟩
      obtain ⟨J3, hJ3⟩ : ∃ J3, J3 = 2 * j + 1 := ⟨_, rfl⟩
      obtain ⟨A, hA⟩ : ∃ A, A = bt l J2 := ⟨_, rfl⟩
      obtain ⟨B, hB⟩ : ∃ B, B = bt l J3 := ⟨_, rfl⟩
      obtain ⟨A8, hA8⟩ : ∃ A8, A8 = A * 256 := ⟨_, rfl⟩
      obtain ⟨E, hE⟩ : ∃ E, E = ent l j := ⟨_, rfl⟩
      have hAr : 0 ≤ A ∧ A ≤ 255 := by rw [hA]; exact bt_range l J2
      have hBr : 0 ≤ B ∧ B ≤ 255 := by rw [hB]; exact bt_range l J3
      have i1 : IntKind.i64.wrap (2 * (j : Int)) = (J2 : Int) := by rw [IntWalk.i64_in _ (by omega)]; omega
      have i2 : IntKind.i64.wrap ((J2 : Int) + 1) = (J3 : Int) := by rw [IntWalk.i64_in _ (by omega)]; omega
      have i3 : (J2 : Int) < 240 := by omega
      have i4 : (J3 : Int) < 240 := by omega
      have i5 : ∀ h : J2 < S.size, ((S[J2]'h).toNat : Int) = A := fun h => by rw [hA]; exact Hbt.out J2 h
      have i6 : ∀ h : J3 < S.size, ((S[J3]'h).toNat : Int) = B := fun h => by rw [hB]; exact Hbt.out J3 h
      have i7 : IntKind.i64.wrap A = A := IntWalk.i64_in _ (by omega)
      have i8 : IntKind.i64.wrap B = B := IntWalk.i64_in _ (by omega)
      have i9 : IntKind.i64.wrap (A * 256) = A8 := by rw [IntWalk.i64_in _ (by omega)]; omega
      have i10 : bits .or .i64 A8 B = E := by rw [hA8, or_code hAr hBr, hE, ent, hA, hB, hJ2, hJ3]
      have HE := Lib.hid hE
      have HA := Lib.hid hA
      have HB := Lib.hid hB
      have HA8 := Lib.hid hA8
      have HJ2 := Lib.hid hJ2
      have HJ3 := Lib.hid hJ3
      clear hE hA hB hA8 hJ2 hJ3
      go_wp2_with fail
      refine wp_region_held_drew (S := fun w' => w'.cell? ⟨w.heap.size, 3, none⟩ = some (.string S)) (by kernel_rfl) (hc3) (fun hHeld => ?_)
      refine wpAnyH_take (i := 0) (v := ?_) rfl (by kernel_rfl) (by kernel_rfl) (by kernel_rfl) (fun _ _ _ h => h) (Or.inl ⟨by rfl, ?_⟩) hHeld ?_
      rotate_left
      · intro wq hSw
        try dsimp only at hSw
        go_simp
        try rw [if_neg (by omega)]
        try rw [if_pos (by omega)]
        try with_reducible rfl
      try simp only [Act.put, List.setIfInBounds_toArray, List.set_cons_zero, List.set_cons_succ]
      refine wpAnyH_take (i := 1) (v := ?_) rfl (by kernel_rfl) (by kernel_rfl) (by kernel_rfl) (fun _ _ _ h => h) (Or.inl ⟨by rfl, ?_⟩) hHeld ?_
      rotate_left
      · intro wq hSw
        try dsimp only at hSw
        go_simp
        try rw [if_neg (by omega)]
        try rw [if_pos (by omega)]
        try with_reducible rfl
      try simp only [Act.put, List.setIfInBounds_toArray, List.set_cons_zero, List.set_cons_succ]
      refine wpAnyH_take (i := 2) (v := ?_) rfl (by kernel_rfl) (by kernel_rfl) (by kernel_rfl) (fun _ _ _ h => h) (Or.inl ⟨by rfl, ?_⟩) hHeld ?_
      rotate_left
      · intro wq hSw
        try dsimp only at hSw
        go_simp
        try rw [if_neg (by omega)]
        try rw [if_pos (by omega)]
        try with_reducible rfl
      try simp only [Act.put, List.setIfInBounds_toArray, List.set_cons_zero, List.set_cons_succ]
      refine wpAnyH_take (i := 3) (v := ?_) rfl (by kernel_rfl) (by kernel_rfl) (by kernel_rfl) (fun _ _ _ h => h) (Or.inl ⟨by rfl, ?_⟩) hHeld ?_
      rotate_left
      · intro wq hSw
        try dsimp only at hSw
        go_simp
        try rw [if_neg (by omega)]
        try rw [if_pos (by omega)]
        try with_reducible rfl
      try simp only [Act.put, List.setIfInBounds_toArray, List.set_cons_zero, List.set_cons_succ]
      refine wpAnyH_take (i := 4) (v := ?_) rfl (by kernel_rfl) (by kernel_rfl) (by kernel_rfl) (fun _ _ _ h => h) (Or.inl ⟨by rfl, ?_⟩) hHeld ?_
      rotate_left
      · intro wq hSw
        try dsimp only at hSw
        go_simp
        try rw [if_neg (by omega)]
        try rw [if_pos (by omega)]
        try with_reducible rfl
      try simp only [Act.put, List.setIfInBounds_toArray, List.set_cons_zero, List.set_cons_succ]
      refine wpAnyH_take (i := 5) (v := ?_) rfl (by kernel_rfl) (by kernel_rfl) (by kernel_rfl) (fun _ _ _ h => h) (Or.inl ⟨by rfl, ?_⟩) hHeld ?_
      rotate_left
      · intro wq hSw
        try dsimp only at hSw
        go_simp
        try rw [if_neg (by omega)]
        try rw [if_pos (by omega)]
        try with_reducible rfl
      try simp only [Act.put, List.setIfInBounds_toArray, List.set_cons_zero, List.set_cons_succ]
      refine wpAnyH_take (i := 6) (v := ?_) rfl (by kernel_rfl) (by kernel_rfl) (by kernel_rfl) (fun _ _ _ h => h) (Or.inl ⟨by rfl, ?_⟩) hHeld ?_
      rotate_left
      · intro wq hSw
        try dsimp only at hSw
        go_simp
        try rw [if_neg (by omega)]
        try rw [if_pos (by omega)]
        try with_reducible rfl
      try simp only [Act.put, List.setIfInBounds_toArray, List.set_cons_zero, List.set_cons_succ]
      refine wpAnyH_take (i := 7) (v := ?_) rfl (by kernel_rfl) (by kernel_rfl) (by kernel_rfl) (fun _ _ _ h => h) (Or.inl ⟨by rfl, ?_⟩) hHeld ?_
      rotate_left
      · intro wq hSw
        try dsimp only at hSw
        go_simp
        try rw [if_neg (by omega)]
        try rw [if_pos (by omega)]
        try with_reducible rfl
      try simp only [Act.put, List.setIfInBounds_toArray, List.set_cons_zero, List.set_cons_succ]
      refine wpAnyH_take (i := 8) (v := ?_) rfl (by kernel_rfl) (by kernel_rfl) (by kernel_rfl) (fun _ _ _ h => h) (Or.inl ⟨by rfl, ?_⟩) hHeld ?_
      rotate_left
      · intro wq hSw
        try dsimp only at hSw
        go_simp
        try rw [if_neg (by omega)]
        try rw [if_pos (by omega)]
        try with_reducible rfl
      try simp only [Act.put, List.setIfInBounds_toArray, List.set_cons_zero, List.set_cons_succ]
      refine wpAnyH_take (i := 9) (v := ?_) rfl (by kernel_rfl) (by kernel_rfl) (by kernel_rfl) (fun _ _ _ h => h) (Or.inl ⟨by rfl, ?_⟩) hHeld ?_
      rotate_left
      · intro wq hSw
        try dsimp only at hSw
        go_simp
        try rw [if_neg (by omega)]
        try rw [if_pos (by omega)]
        try with_reducible rfl
      try simp only [Act.put, List.setIfInBounds_toArray, List.set_cons_zero, List.set_cons_succ]
      refine wpAnyH_take (i := 10) (v := ?_) rfl (by kernel_rfl) (by kernel_rfl) (by kernel_rfl) (fun _ _ _ h => h) (Or.inl ⟨by rfl, ?_⟩) hHeld ?_
      rotate_left
      · intro wq hSw
        try dsimp only at hSw
        go_simp
        try rw [if_neg (by omega)]
        try rw [if_pos (by omega)]
        try with_reducible rfl
      try simp only [Act.put, List.setIfInBounds_toArray, List.set_cons_zero, List.set_cons_succ]
      refine wpAnyH_take (i := 11) (v := ?_) rfl (by kernel_rfl) (by kernel_rfl) (by kernel_rfl) (fun _ _ _ h => h) (Or.inl ⟨by rfl, ?_⟩) hHeld ?_
      rotate_left
      · intro wq hSw
        try dsimp only at hSw
        go_simp
        try rw [if_neg (by omega)]
        try rw [if_pos (by omega)]
        try with_reducible rfl
      try simp only [Act.put, List.setIfInBounds_toArray, List.set_cons_zero, List.set_cons_succ]
      refine wpAnyH_take (i := 12) (v := ?_) rfl (by kernel_rfl) (by kernel_rfl) (by kernel_rfl) (fun _ _ _ h => h) (Or.inl ⟨by rfl, ?_⟩) hHeld ?_
      rotate_left
      · intro wq hSw
        try dsimp only at hSw
        go_simp
        try rw [if_neg (by omega)]
        try rw [if_pos (by omega)]
        try with_reducible rfl
      try simp only [Act.put, List.setIfInBounds_toArray, List.set_cons_zero, List.set_cons_succ]
      refine wpAnyH_take (i := 13) (v := ?_) rfl (by kernel_rfl) (by kernel_rfl) (by kernel_rfl) (fun _ _ _ h => h) (Or.inl ⟨by rfl, ?_⟩) hHeld ?_
      rotate_left
      · intro wq hSw
        try dsimp only at hSw
        go_simp
        try rw [if_neg (by omega)]
        try rw [if_pos (by omega)]
        try with_reducible rfl
      try simp only [Act.put, List.setIfInBounds_toArray, List.set_cons_zero, List.set_cons_succ]
      refine wpAnyH_take (i := 14) (v := ?_) rfl (by kernel_rfl) (by kernel_rfl) (by kernel_rfl) (fun _ _ _ h => h) (Or.inl ⟨by rfl, ?_⟩) hHeld ?_
      rotate_left
      · intro wq hSw
        try dsimp only at hSw
        go_simp
        try rw [if_neg (by omega)]
        try rw [if_pos (by omega)]
        try with_reducible rfl
      try simp only [Act.put, List.setIfInBounds_toArray, List.set_cons_zero, List.set_cons_succ]
      refine wpAnyH_take (i := 15) (v := ?_) rfl (by kernel_rfl) (by kernel_rfl) (by kernel_rfl) (fun _ _ _ h => h) (Or.inl ⟨by rfl, ?_⟩) hHeld ?_
      rotate_left
      · intro wq hSw
        try dsimp only at hSw
        go_simp
        try rw [if_neg (by omega)]
        try rw [if_pos (by omega)]
        try with_reducible rfl
      try simp only [Act.put, List.setIfInBounds_toArray, List.set_cons_zero, List.set_cons_succ]
      refine wpAnyH_done (by kernel_rfl) ?_ _
      have hpl := lt_of_block hpg
      have hel := lt_of_block hent
      have hce := blk_cell hent 0
      have hfe := blk_free hent 0
      have hcr := blk_cell hres 0
      have hrl := lt_of_block hres
      have hma := fun W => may_any E W
      change wr.cell? ⟨w.heap.size + 2, 0, none⟩ = some v at hce
      by_cases hmay : mayP E
      · have hmb : mayB E = true := decide_eq_true hmay
        rw [hmb] at hma
        go_wp2_with fail
        with_reducible refine (hma _).mono ?_
        rintro e w3 ⟨rfl, hw3⟩
        subst hw3
        go_wp2_with (at_builtin; refine wpList_append_lies _ rfl (.tmp 53) (.tmp 55) _ rfl (w.heap.size + 3) 3 i0 (.int .i64 0) 1 8 Tryz.underlying45 hif hz0 hz1 hz2 rfl (by decide) v j (ints (ents l j)) rfl (hown.drew.alloc _) ⟨wr.heap.size, 0, none⟩ 1 1 [.int .i64 E] rfl rfl (cells_new _ _ (by first | rfl | simp) [.int .i64 E] _) (by intro u hu; simp at hu; subst hu; rfl) (by omega) (by unfold maxLen; omega) (by omega) (by simp; omega) _ rfl ?_; intro gg cg w4 hown4 hgrow hat hgg; have hpg4 := keep_grown (W := (wr.alloc (.cells #[.int .i64 E] 3)).drew) hown hgrow (by omega) (hal hpg); have hres4 := keep_grown (W := (wr.alloc (.cells #[.int .i64 E] 3)).drew) hown hgrow (by omega) (hal hres); have hent4 := keep_grown (W := (wr.alloc (.cells #[.int .i64 E] 3)).drew) hown hgrow (by omega) (hal hent); have hel4 := lt_of_block hent4; have hce4 := blk_cell hent4 0; have hfe4 := blk_free hent4 0; clear hce hfe hel hpl hcr hrl hzp hc3)
        go_roundw
        case rel =>
          have hrel' : ∃ (j' : Nat) (v' : Value), Value.int .i64 ((j : Int) + 1) = .int .i64 j' ∧ j' ≤ n ∧ (w4.setCell ⟨w.heap.size + 2, 0, none⟩ (.slice (some ⟨gg, 0, none⟩) (j + 1) cg)).heap[w.heap.size]? = some (.cells #[.int .i64 1, .int .i64 d, .int .i64 x, .string S] 113 (0, 0)) ∧ (w4.setCell ⟨w.heap.size + 2, 0, none⟩ (.slice (some ⟨gg, 0, none⟩) (j + 1) cg)).heap[w.heap.size + 1]? = some (.cells #[.slice none 0 0, .int .i64 0] 248 (0, 0)) ∧ (w4.setCell ⟨w.heap.size + 2, 0, none⟩ (.slice (some ⟨gg, 0, none⟩) (j + 1) cg)).heap[w.heap.size + 2]? = some (.cells #[v', .int .i64 0] 248 (0, 0)) ∧ (w4.setCell ⟨w.heap.size + 2, 0, none⟩ (.slice (some ⟨gg, 0, none⟩) (j + 1) cg)).ownsRow (w.heap.size + 3) 3 1 v' j' (ints (ents l j')) ∧ Below w.heap.size w (w4.setCell ⟨w.heap.size + 2, 0, none⟩ (.slice (some ⟨gg, 0, none⟩) (j + 1) cg)) ∧ Hid (∀ i, i < j' → mayP (ent l i)) := by
            refine ⟨j + 1, _, by go_num, by omega, (heap_setCell_other _ _ _ _ (show w.heap.size ≠ w.heap.size + 2 by omega)).trans hpg4, (heap_setCell_other _ _ _ _ (show w.heap.size + 1 ≠ w.heap.size + 2 by omega)).trans hres4, heap_setCell_same w4 (w.heap.size + 2) 0 _ _ _ hent4, ?_, ?_, Lib.hid (fun i hi => ?_)⟩
            · rw [ents_succ, ← HE.out]
              simpa [ints] using ownsRow_setCell_below hown4 (a := ⟨w.heap.size + 2, 0, none⟩) (show w.heap.size + 2 < w.heap.size + 3 by omega) _
            · exact below_set (below_grown (below_dr (below_al hbel _)) (by have := hbel.size; show _ ≤ (wr.alloc _).heap.size; simp; omega) (own_weaken hown (by omega)) hgrow) (by omega)
            · rcases Nat.lt_or_eq_of_le (Nat.le_of_lt_succ hi) with h | h
              · exact hmays.out i h
              · rw [h, ← HE.out]; exact hmay
          first | exact hrel' | ((repeat apply Exists.intro); exact ⟨hrel', rfl⟩)
        case measure => simp [intOf]; omega
      · have hmb : mayB E = false := decide_eq_false hmay
        have hno : Hid (∀ n', ¬ IsDir 1 d l n') := fun n' hd => hmay (by rw [HE.out]; exact hd.may j (by rw [hd.size, ← Hn.out]; exact hlt))
        rw [hmb] at hma
        clear hown hce hfe hel hent
        have hcrs := blk_cell hres
        have hfrs := blk_free hres
        go_wp2_with fail
        with_reducible refine (hma _).mono ?_
        rintro e w3 ⟨rfl, hw3⟩
        subst hw3
        clear hma hcr
        go_wp2
        have hW : (((wr.setCell ⟨w.heap.size + 1, 0, none⟩ (.slice none 0 0)).setCell ⟨w.heap.size + 1, 1, none⟩ (.int .i64 0)).drew).heap[w.heap.size + 1]? = some (.cells #[.slice none 0 0, .int .i64 0] 248 (0, 0)) := set2_same hres _ _
        have hB : Below w.heap.size w (((wr.setCell ⟨w.heap.size + 1, 0, none⟩ (.slice none 0 0)).setCell ⟨w.heap.size + 1, 1, none⟩ (.int .i64 0)).drew) := below_dr (below_set (below_set hbel (by omega)) (by omega))
        generalize (((wr.setCell ⟨w.heap.size + 1, 0, none⟩ (.slice none 0 0)).setCell ⟨w.heap.size + 1, 1, none⟩ (.int .i64 0)).drew) = W' at *
        have k0 := blk_cell hW 0
        have k1 := blk_cell hW 1
        clear hW hcrs
        refine bodyPost_ret (v := .tuple #[.agg #[.slice none 0 0, .int .i64 0], .bool false]) (by simp [results, Tryz.results187, go_sem, k0, k1]) rfl (.inr ⟨hno.out, rfl, hB⟩)
    · obtain rfl : j = n := by omega
      have hc1 := blk_cell hpg 1
      change wr.cell? ⟨w.heap.size, 1, none⟩ = some (.int .i64 d) at hc1
      obtain ⟨M, hM⟩ : ∃ M, M = 2 * j := ⟨_, rfl⟩
      rw [← hM] at hsh2
      have hsh3 : IntKind.i64.wrap (2 * 2 ^ d.toNat) = (M : Int) := by rw [hM]; exact Hsh3.out
      have m1 : (M : Int) ≤ 240 := by omega
      have m2 : M ≤ 240 := by omega
      have htr := fun W => Tryz.strings_Trim_one (S.extract M 240) 0 (by decide) W (by rw [ByteArray.size_extract]; omega)
      have hdt : (S.extract M 240).data.toList = l.drop M := by
        rw [HS.out, Lib.extract_mk, List.take_of_length_le (by rw [List.length_drop, Hl.out]; omega)]
      rw [hdt] at htr
      obtain ⟨T, hT⟩ : ∃ T, T = Lib.trimB (l.drop M) 0 := ⟨_, rfl⟩
      rw [← hT] at htr
      have HT := Lib.hid hT
      have HM := Lib.hid hM
      clear hdt hT hM
      obtain ⟨gg, cg, rfl, hgg, hggl⟩ := hown.form (by omega)
      rcases T with _ | ⟨t0, ts⟩
      · have hdir : Hid (IsDir 1 d l j) := ⟨rfl, h0, h5, Hl.out, Hn.out, hmays.out, by rw [← HM.out]; exact (trimB_nil _ _).1 HT.out.symm⟩
        go_wp2_with fail
        refine wp_region_held_drew (S := fun w' => w'.cell? ⟨w.heap.size, 1, none⟩ = some (.int .i64 d) ∧ w'.cell? ⟨w.heap.size, 3, none⟩ = some (.string S)) (by kernel_rfl) (⟨hc1, hc3⟩) (fun hHeld => ?_)
        refine wpAnyH_take (i := 0) (v := ?_) rfl (by kernel_rfl) (by kernel_rfl) (by kernel_rfl) (fun _ _ _ h => h) (Or.inl ⟨by rfl, ?_⟩) hHeld ?_
        rotate_left
        · intro wq hSw
          try dsimp only at hSw
          go_simp
          try rw [if_neg (by omega)]
          try rw [if_pos (by omega)]
          try with_reducible rfl
        try simp only [Act.put, List.setIfInBounds_toArray, List.set_cons_zero, List.set_cons_succ]
        refine wpAnyH_take (i := 1) (v := ?_) rfl (by kernel_rfl) (by kernel_rfl) (by kernel_rfl) (fun _ _ _ h => h) (Or.inl ⟨by rfl, ?_⟩) hHeld ?_
        rotate_left
        · intro wq hSw
          try dsimp only at hSw
          go_simp
          try rw [if_neg (by omega)]
          try rw [if_pos (by omega)]
          try with_reducible rfl
        try simp only [Act.put, List.setIfInBounds_toArray, List.set_cons_zero, List.set_cons_succ]
        refine wpAnyH_take (i := 2) (v := ?_) rfl (by kernel_rfl) (by kernel_rfl) (by kernel_rfl) (fun _ _ _ h => h) (Or.inl ⟨by rfl, ?_⟩) hHeld ?_
        rotate_left
        · intro wq hSw
          try dsimp only at hSw
          go_simp
          try rw [if_neg (by omega)]
          try rw [if_pos (by omega)]
          try with_reducible rfl
        try simp only [Act.put, List.setIfInBounds_toArray, List.set_cons_zero, List.set_cons_succ]
        refine wpAnyH_take (i := 3) (v := ?_) rfl (by kernel_rfl) (by kernel_rfl) (by kernel_rfl) (fun _ _ _ h => h) (Or.inl ⟨by rfl, ?_⟩) hHeld ?_
        rotate_left
        · intro wq hSw
          try dsimp only at hSw
          go_simp
          try rw [if_neg (by omega)]
          try rw [if_pos (by omega)]
          try with_reducible rfl
        try simp only [Act.put, List.setIfInBounds_toArray, List.set_cons_zero, List.set_cons_succ]
        refine wpAnyH_take (i := 4) (v := ?_) rfl (by kernel_rfl) (by kernel_rfl) (by kernel_rfl) (fun _ _ _ h => h) (Or.inl ⟨by rfl, ?_⟩) hHeld ?_
        rotate_left
        · intro wq hSw
          try dsimp only at hSw
          go_simp
          try rw [if_neg (by omega)]
          try rw [if_pos (by omega)]
          try with_reducible rfl
        try simp only [Act.put, List.setIfInBounds_toArray, List.set_cons_zero, List.set_cons_succ]
        refine wpAnyH_take (i := 5) (v := ?_) rfl (by kernel_rfl) (by kernel_rfl) (by kernel_rfl) (fun _ _ _ h => h) (Or.inl ⟨by rfl, ?_⟩) hHeld ?_
        rotate_left
        · intro wq hSw
          try dsimp only at hSw
          go_simp
          try rw [if_neg (by omega)]
          try rw [if_pos (by omega)]
          try with_reducible rfl
        try simp only [Act.put, List.setIfInBounds_toArray, List.set_cons_zero, List.set_cons_succ]
        refine wpAnyH_ready (rs := [6]) (by kernel_rfl) (by simp) ?_
        refine AllReadyH.cons rfl (fun K hK => ?_) AllReadyH.nil
        go_simp
        with_reducible refine (htr _).mono ?_
        rintro e w3 ⟨rfl, hw3⟩
        dsimp only
        have hk7 : w3.cell? ⟨w.heap.size, 1, none⟩ = some (.int .i64 d) ∧ w3.cell? ⟨w.heap.size, 3, none⟩ = some (.string S) := by
          rcases hw3 with rfl | rfl
          · exact hHeld
          · exact hHeld
        refine hK.out _ _ (hk7) (fun hHeld2 => ?_)
        clear hK K
        try clear hHeld
        have hHeld := hHeld2
        try clear hHeld2
        refine wpAnyH_take (i := 7) (v := ?_) rfl (by kernel_rfl) (by kernel_rfl) (by kernel_rfl) (fun _ _ _ h => h) (Or.inl ⟨by rfl, ?_⟩) hHeld ?_
        rotate_left
        · intro wq hSw
          try dsimp only at hSw
          go_simp
          try rw [if_neg (by omega)]
          try rw [if_pos (by omega)]
          try with_reducible rfl
        try simp only [Act.put, List.setIfInBounds_toArray, List.set_cons_zero, List.set_cons_succ]
        refine wpAnyH_done (by kernel_rfl) ?_ _
        have h3 : w3.heap[w.heap.size + 1]? = some (.cells #[.slice none 0 0, .int .i64 0] 248 (0, 0)) ∧ w3.heap[w.heap.size + 2]? = some (.cells #[.slice (some ⟨gg, 0, none⟩) j cg, .int .i64 0] 248 (0, 0)) ∧ Below w.heap.size w w3 ∧ w3.ownsRow (w.heap.size + 3) 3 1 (.slice (some ⟨gg, 0, none⟩) j cg) j (ints (ents l j)) ∧ gg < w3.heap.size := by
          rcases hw3 with rfl | rfl
          · exact ⟨hres, hent, below_dr hbel, hown, hggl⟩
          · exact ⟨hres, hent, below_dr (below_dr hbel), hown, hggl⟩
        obtain ⟨hres3, hent3, hbel3, hown3, hgg3⟩ := h3
        have hce := blk_cell hent3
        have hcs := blk_cell hres3
        have hfs := blk_free hres3
        have hl3 := lt_of_block hres3
        have hl4 := lt_of_block hent3
        clear hw3 htr hres hent hbel hown hggl hc1 hc3 hHeld hk7 hpg hzp
        go_wp2
        have hW : ((w3.setCell ⟨w.heap.size + 1, 0, none⟩ (.slice (some ⟨gg, 0, none⟩) j cg)).setCell ⟨w.heap.size + 1, 1, none⟩ (.int .i64 0)).heap[w.heap.size + 1]? = some (.cells #[.slice (some ⟨gg, 0, none⟩) j cg, .int .i64 0] 248 (0, 0)) := set2_same hres3 _ _
        have hB : Below w.heap.size w ((w3.setCell ⟨w.heap.size + 1, 0, none⟩ (.slice (some ⟨gg, 0, none⟩) j cg)).setCell ⟨w.heap.size + 1, 1, none⟩ (.int .i64 0)) := below_set (below_set hbel3 (by omega)) (by omega)
        have hO := ownsRow_setCell_below (ownsRow_setCell_below hown3 (a := ⟨w.heap.size + 1, 0, none⟩) (show w.heap.size + 1 < w.heap.size + 3 by omega) (.slice (some ⟨gg, 0, none⟩) j cg)) (a := ⟨w.heap.size + 1, 1, none⟩) (show w.heap.size + 1 < w.heap.size + 3 by omega) (.int .i64 0)
        have hG : gg < ((w3.setCell ⟨w.heap.size + 1, 0, none⟩ (.slice (some ⟨gg, 0, none⟩) j cg)).setCell ⟨w.heap.size + 1, 1, none⟩ (.int .i64 0)).heap.size := by simpa using hgg3
        clear hown3 hbel3 hres3 hent3 hcs hfs hce
        generalize ((w3.setCell ⟨w.heap.size + 1, 0, none⟩ (.slice (some ⟨gg, 0, none⟩) j cg)).setCell ⟨w.heap.size + 1, 1, none⟩ (.int .i64 0)) = W' at *
        have k0 := blk_cell hW 0
        have k1 := blk_cell hW 1
        clear hW
        refine bodyPost_ret (v := .tuple #[.agg #[.slice (some ⟨gg, 0, none⟩) j cg, .int .i64 0], .bool true]) (by simp [results, Tryz.results187, go_sem, k0, k1]) rfl (.inl ⟨j, gg, cg, hdir.out, rfl, own_weaken hO (by omega), hG, by omega, hB⟩)
      · have hno : Hid (∀ n', ¬ IsDir 1 d l n') := fun n' hd => by
          have h1 := hd.rest
          rw [hd.size, ← Hn.out, ← HM.out] at h1
          have := (trimB_nil (l.drop M) 0).2 h1
          rw [← HT.out] at this
          cases this
        go_wp2_with fail
        refine wp_region_held_drew (S := fun w' => w'.cell? ⟨w.heap.size, 1, none⟩ = some (.int .i64 d) ∧ w'.cell? ⟨w.heap.size, 3, none⟩ = some (.string S)) (by kernel_rfl) (⟨hc1, hc3⟩) (fun hHeld => ?_)
        refine wpAnyH_take (i := 0) (v := ?_) rfl (by kernel_rfl) (by kernel_rfl) (by kernel_rfl) (fun _ _ _ h => h) (Or.inl ⟨by rfl, ?_⟩) hHeld ?_
        rotate_left
        · intro wq hSw
          try dsimp only at hSw
          go_simp
          try rw [if_neg (by omega)]
          try rw [if_pos (by omega)]
          try with_reducible rfl
        try simp only [Act.put, List.setIfInBounds_toArray, List.set_cons_zero, List.set_cons_succ]
        refine wpAnyH_take (i := 1) (v := ?_) rfl (by kernel_rfl) (by kernel_rfl) (by kernel_rfl) (fun _ _ _ h => h) (Or.inl ⟨by rfl, ?_⟩) hHeld ?_
        rotate_left
        · intro wq hSw
          try dsimp only at hSw
          go_simp
          try rw [if_neg (by omega)]
          try rw [if_pos (by omega)]
          try with_reducible rfl
        try simp only [Act.put, List.setIfInBounds_toArray, List.set_cons_zero, List.set_cons_succ]
        refine wpAnyH_take (i := 2) (v := ?_) rfl (by kernel_rfl) (by kernel_rfl) (by kernel_rfl) (fun _ _ _ h => h) (Or.inl ⟨by rfl, ?_⟩) hHeld ?_
        rotate_left
        · intro wq hSw
          try dsimp only at hSw
          go_simp
          try rw [if_neg (by omega)]
          try rw [if_pos (by omega)]
          try with_reducible rfl
        try simp only [Act.put, List.setIfInBounds_toArray, List.set_cons_zero, List.set_cons_succ]
        refine wpAnyH_take (i := 3) (v := ?_) rfl (by kernel_rfl) (by kernel_rfl) (by kernel_rfl) (fun _ _ _ h => h) (Or.inl ⟨by rfl, ?_⟩) hHeld ?_
        rotate_left
        · intro wq hSw
          try dsimp only at hSw
          go_simp
          try rw [if_neg (by omega)]
          try rw [if_pos (by omega)]
          try with_reducible rfl
        try simp only [Act.put, List.setIfInBounds_toArray, List.set_cons_zero, List.set_cons_succ]
        refine wpAnyH_take (i := 4) (v := ?_) rfl (by kernel_rfl) (by kernel_rfl) (by kernel_rfl) (fun _ _ _ h => h) (Or.inl ⟨by rfl, ?_⟩) hHeld ?_
        rotate_left
        · intro wq hSw
          try dsimp only at hSw
          go_simp
          try rw [if_neg (by omega)]
          try rw [if_pos (by omega)]
          try with_reducible rfl
        try simp only [Act.put, List.setIfInBounds_toArray, List.set_cons_zero, List.set_cons_succ]
        refine wpAnyH_take (i := 5) (v := ?_) rfl (by kernel_rfl) (by kernel_rfl) (by kernel_rfl) (fun _ _ _ h => h) (Or.inl ⟨by rfl, ?_⟩) hHeld ?_
        rotate_left
        · intro wq hSw
          try dsimp only at hSw
          go_simp
          try rw [if_neg (by omega)]
          try rw [if_pos (by omega)]
          try with_reducible rfl
        try simp only [Act.put, List.setIfInBounds_toArray, List.set_cons_zero, List.set_cons_succ]
        refine wpAnyH_ready (rs := [6]) (by kernel_rfl) (by simp) ?_
        refine AllReadyH.cons rfl (fun K hK => ?_) AllReadyH.nil
        go_simp
        with_reducible refine (htr _).mono ?_
        rintro e w3 ⟨rfl, hw3⟩
        dsimp only
        have hk7 : w3.cell? ⟨w.heap.size, 1, none⟩ = some (.int .i64 d) ∧ w3.cell? ⟨w.heap.size, 3, none⟩ = some (.string S) := by
          rcases hw3 with rfl | rfl
          · exact hHeld
          · exact hHeld
        refine hK.out _ _ (hk7) (fun hHeld2 => ?_)
        clear hK K
        try clear hHeld
        have hHeld := hHeld2
        try clear hHeld2
        refine wpAnyH_take (i := 7) (v := ?_) rfl (by kernel_rfl) (by kernel_rfl) (by kernel_rfl) (fun _ _ _ h => h) (Or.inl ⟨by rfl, ?_⟩) hHeld ?_
        rotate_left
        · intro wq hSw
          try dsimp only at hSw
          go_simp
          try rw [if_neg (by omega)]
          try rw [if_pos (by omega)]
          try with_reducible rfl
        try simp only [Act.put, List.setIfInBounds_toArray, List.set_cons_zero, List.set_cons_succ]
        refine wpAnyH_done (by kernel_rfl) ?_ _
        have h3 : w3.heap[w.heap.size + 1]? = some (.cells #[.slice none 0 0, .int .i64 0] 248 (0, 0)) ∧ w3.heap[w.heap.size + 2]? = some (.cells #[.slice (some ⟨gg, 0, none⟩) j cg, .int .i64 0] 248 (0, 0)) ∧ Below w.heap.size w w3 ∧ w3.ownsRow (w.heap.size + 3) 3 1 (.slice (some ⟨gg, 0, none⟩) j cg) j (ints (ents l j)) ∧ gg < w3.heap.size := by
          rcases hw3 with rfl | rfl
          · exact ⟨hres, hent, below_dr hbel, hown, hggl⟩
          · exact ⟨hres, hent, below_dr (below_dr hbel), hown, hggl⟩
        obtain ⟨hres3, hent3, hbel3, hown3, hgg3⟩ := h3
        have hce := blk_cell hent3
        have hcs := blk_cell hres3
        have hfs := blk_free hres3
        have hl3 := lt_of_block hres3
        have hl4 := lt_of_block hent3
        clear hw3 htr hres hent hbel hown hggl hc1 hc3 hHeld hk7 hpg hzp
        go_wp2
        clear hce hcs hfs
        have hW : (((w3.setCell ⟨w.heap.size + 1, 0, none⟩ (.slice none 0 0)).setCell ⟨w.heap.size + 1, 1, none⟩ (.int .i64 0))).heap[w.heap.size + 1]? = some (.cells #[.slice none 0 0, .int .i64 0] 248 (0, 0)) := set2_same hres3 _ _
        have hB : Below w.heap.size w (((w3.setCell ⟨w.heap.size + 1, 0, none⟩ (.slice none 0 0)).setCell ⟨w.heap.size + 1, 1, none⟩ (.int .i64 0))) := below_set (below_set hbel3 (by omega)) (by omega)
        generalize (((w3.setCell ⟨w.heap.size + 1, 0, none⟩ (.slice none 0 0)).setCell ⟨w.heap.size + 1, 1, none⟩ (.int .i64 0))) = W' at *
        have k0 := blk_cell hW 0
        have k1 := blk_cell hW 1
        clear hW
        refine bodyPost_ret (v := .tuple #[.agg #[.slice none 0 0, .int .i64 0], .bool false]) (by simp [results, Tryz.results187, go_sem, k0, k1]) rfl (.inr ⟨hno.out, rfl, hB⟩)
end Go.Proofs.YtijhamllnnilbaaGreatDoor.Dr
namespace Go.Proofs.YtijhamllnnilbaaGreatDoor.Dr
open Go.RowKit Go.Proofs.YtijhamllnnilbaaGreatDoor.Mem Go.Proofs.YtijhamllnnilbaaGreatDoor.Pg

theorem wrap_small (z : Int) (h : 0 ≤ z ∧ z ≤ 1000) : wrap64 z = z ∧ IntKind.i64.wrap z = z := ⟨IntWalk.wrap64_in _ (by omega), IntWalk.i64_in _ (by omega)⟩
theorem pow_small (m : Nat) (h : m ≤ 5) : (2 : Int) ^ ((m : Int).toNat) = ((2 ^ m : Nat) : Int) ∧ 1 ≤ 2 ^ m ∧ 2 ^ m ≤ 32 := by
  rw [Int.toNat_natCast]
  match m, h with
  | 0, _ | 1, _ | 2, _ | 3, _ | 4, _ | 5, _ => simp
theorem of_any (k d x : Int) (l : List UInt8) (w : World) :
    Calls Tryz.prog 187 #[.agg #[.int .i64 k, .int .i64 d, .int .i64 x, .string (str l)]] w (OfPost w k d l) := by
  by_cases h : k = 1 ∧ 0 ≤ d ∧ d ≤ 5 ∧ l.length = 240
  · obtain ⟨rfl, h0, h5, hl240⟩ := h
    obtain ⟨m, rfl⟩ := Int.eq_ofNat_of_zero_le h0
    obtain ⟨e, h1, h2⟩ := pow_small m (by omega)
    refine of_body m x l (2 ^ m) w h0 h5 hl240 (by rw [Int.toNat_natCast]) h1 h2 ?_ ?_ ?_
    · rw [e]; exact (wrap_small _ (by omega)).1
    · rw [e]
      generalize 2 ^ m = q at *
      rw [(wrap_small _ (by omega)).1]
      omega
    · rw [e]
      generalize 2 ^ m = q at *
      rw [(wrap_small _ (by omega)).2]
      omega
  · exact of_head k d x l w (by omega)
end Go.Proofs.YtijhamllnnilbaaGreatDoor.Dr
namespace Go.Proofs.YtijhamllnnilbaaGreatDoor.Dr
open Go.RowKit Go.Proofs.YtijhamllnnilbaaGreatDoor.Mem Go.Proofs.YtijhamllnnilbaaGreatDoor.Pg

theorem info_byte : (Tryz.prog.info? 5).map (fun i => (i.zero, i.size, i.bytes)) = some (some (.int .u8 0), 1, 1) := by kernel_rfl
/-- The bytes of entries. -/
def nums (xs : List Int) : List Int := xs.flatMap fun x => [0, x]
theorem nums_len (xs : List Int) : (nums xs).length = 2 * xs.length := by
  induction xs with
  | nil => rfl
  | cons x xs ih => rw [nums, List.flatMap_cons, List.length_append, ← nums, ih]; simp; omega
theorem nums_snoc (xs : List Int) (x : Int) : nums (xs ++ [x]) = nums xs ++ [0, x] := by simp [nums]
def encL (xs : List Int) : List UInt8 := (nums xs).map fun x => UInt8.ofNat x.toNat
theorem encL_len (xs : List Int) : (encL xs).length = 2 * xs.length := by rw [encL, List.length_map, nums_len]
def u8s (l : List Int) : List Value := l.map (Value.int .u8)
/-- The body of a page of entries. -/
def bodyOf (xs : List Int) : List UInt8 := encL xs ++ zs (240 - 2 * xs.length)

set_option maxRecDepth 100000 in
set_option maxHeartbeats 4000000 in
theorem page_any (k d x m dep : Int) (s : ByteArray) (A : Option Addr) (n cap : Nat) (xs : List Int) (w : World) (hz : Ints w A n xs) (hm : ∀ y ∈ xs, mayP y) (hn1 : 1 ≤ n) (hn : n ≤ 32) :
    Calls Tryz.prog 164 #[.agg #[.slice A n cap, .int .i64 m], .agg #[.int .i64 k, .int .i64 d, .int .i64 x, .string s], .int .i64 dep] w fun e w' =>
      e = .returned (.agg #[.int .i64 k, .int .i64 dep, .int .i64 x, .string (str (bodyOf xs))]) ∧ Below w.heap.size w w' := by
  obtain ⟨b, off, rfl, hbl, hcell⟩ := hz.2.2 (by omega)
  have hxl := hz.1
  obtain ⟨i0, hif, hz0, hz1, hz2⟩ := info_parts info_byte
  have Hcell := Lib.hid hcell
  have Hm := Lib.hid hm
  have Hxl := Lib.hid hxl
  clear hcell hm hxl hz
  go_enter Tryz.func164, Tryz.ntmps164
  go_wp2_with fail
  go_loopw [7, 13] (fun v i wr => ∃ j : Nat, i = .int .i64 j ∧ j ≤ n ∧ wr.heap[w.heap.size + 1]? = some (.cells #[.int .i64 k, .int .i64 d, .int .i64 x, .string s] 113 (0, 0)) ∧ wr.heap[w.heap.size + 2]? = some (.cells #[.int .i64 0, .int .i64 0, .int .i64 0, .string ⟨#[]⟩] 113 (0, 0)) ∧ wr.ownsRow (w.heap.size + 3) 5 1 v (2 * j) (u8s (nums (xs.take j))) ∧ Below w.heap.size w wr) (fun _ i _ => n - (intOf i).toNat)
  case atStart =>
    refine ⟨0, rfl, Nat.zero_le _, hal ?_, ?_, World.ownsRow_nil _ _ _ _, below_al (below_al (below_al (Below.refl _ w) _) _) _⟩
    · have := heap_alloc_new (w.alloc (.cells #[.slice (some ⟨b, off, none⟩) n cap, .int .i64 m] 248)) (.cells #[.int .i64 k, .int .i64 d, .int .i64 x, .string s] 113)
      simpa using this
    · have := heap_alloc_new ((w.alloc (.cells #[.slice (some ⟨b, off, none⟩) n cap, .int .i64 m] 248)).alloc (.cells #[.int .i64 k, .int .i64 d, .int .i64 x, .string s] 113)) (.cells #[.int .i64 0, .int .i64 0, .int .i64 0, .string ⟨#[]⟩] 113)
      simpa using this
  case round =>
    obtain ⟨j, rfl, hj, hpg, hres, hown, hbel⟩ := hrel
    by_cases hlt : j < n
    · obtain ⟨X, hX⟩ : ∃ X, X = xs.getD j 0 := ⟨_, rfl⟩
      have hx := (hbel.cell (p := ⟨b, off + j, none⟩) hbl).trans (Hcell.out j hlt)
      rw [← hX] at hx
      have hXm : mayP X := by
        have h2 := Hxl.out
        refine Hm.out X (List.mem_iff_getElem?.2 ⟨j, ?_⟩)
        rw [hX, List.getD_eq_getElem?_getD, List.getElem?_eq_getElem (by omega), Option.getD_some]
      have hXr : 2 ≤ X ∧ X < 64 := hXm
      have q1 : X / 256 = 0 := by omega
      have q2 : IntKind.u8.wrap X = X := IntWalk.u8_in _ (by omega)
      have HX := Lib.hid hX
      clear hX hXm
      go_wp2_with (at_builtin; refine wpList_append_own _ rfl (.tmp 17) (.tmp 23) _ rfl (w.heap.size + 3) 5 i0 (.int .u8 0) 1 1 Tryz.underlying43 hif hz0 hz1 hz2 rfl (by decide) _ (2 * j) (u8s (nums (xs.take j))) rfl (hown.alloc _) ⟨wr.heap.size, 0, none⟩ 2 2 [.int .u8 0, .int .u8 X] rfl rfl (cells_new _ _ rfl [.int .u8 0, .int .u8 X] _) (by intro u hu; simp at hu; rcases hu with rfl | rfl <;> rfl) (by unfold maxLen; omega) (by omega) (by have := lt_of_block hres; simp; omega) ?_; intro v' w4 hown4 hgrow _)
      have hg4 : (wr.alloc (.cells #[.int .u8 0, .int .u8 X] 5)).grownBy w4 u7.ownBlock := hgrow
      have hts : xs.take (j + 1) = xs.take j ++ [X] := by
        have h2 := Hxl.out
        have h3 := HX.out
        rw [List.take_add_one, List.getElem?_eq_getElem (by omega), Option.toList_some, h3, List.getD_eq_getElem?_getD, List.getElem?_eq_getElem (by omega), Option.getD_some]
      have hr' := keep_grown (W := wr.alloc (.cells #[.int .u8 0, .int .u8 X] 5)) hown hg4 (by omega) (hal hres)
      have hp' := keep_grown (W := wr.alloc (.cells #[.int .u8 0, .int .u8 X] 5)) hown hg4 (by omega) (hal hpg)
      go_roundw
      case rel => exact ⟨j + 1, by go_num, by omega, hp', hr', by rw [hts, nums_snoc]; simpa [u8s, Nat.mul_add] using hown4, below_grown (below_al hbel _) (Nat.le_trans hbel.size (by simp)) (own_weaken hown (by omega)) hg4⟩
      case measure => simp [intOf]; omega
    · obtain rfl : j = n := by omega
      obtain ⟨g, c, rfl, hg, hgl⟩ := hown.form (by omega)
      have htk : xs.take j = xs := List.take_of_length_le (by have := Hxl.out; omega)
      rw [htk] at hown
      obtain ⟨N2, hN2⟩ : ∃ N2, N2 = 2 * j := ⟨_, rfl⟩
      rw [← hN2] at hown ⊢
      obtain ⟨M, hM⟩ : ∃ M, M = 240 - N2 := ⟨_, rfl⟩
      have hc1 := blk_cell hpg 1
      have hf1 := blk_free hpg 1
      have hz1 := lt_of_block hpg
      have hpg1 := heap_setCell_same wr (w.heap.size + 1) 1 _ _ (.int .i64 dep) hpg
      have hres1 := (heap_setCell_other wr ⟨w.heap.size + 1, 1, none⟩ (w.heap.size + 2) (.int .i64 dep) (show w.heap.size + 2 ≠ w.heap.size + 1 by omega)).trans hres
      have hbel1 := below_set (j := 1) (u := .int .i64 dep) hbel (show w.heap.size ≤ w.heap.size + 1 by omega)
      have hgW : g < (wr.setCell ⟨w.heap.size + 1, 1, none⟩ (.int .i64 dep)).heap.size := by simpa using hgl
      have hnl : (nums xs).length = N2 := by rw [nums_len, Hxl.out, hN2]
      have hcl1 : ∀ i, i < N2 → (wr.setCell ⟨w.heap.size + 1, 1, none⟩ (.int .i64 dep)).cell? ⟨g, i, none⟩ = some (.int .u8 ((nums xs).getD i 0)) := fun i hi => by
        rw [World.cell?_setCell_other _ _ _ _ (fun e => by injection e with e1; omega)]
        refine own_at hown i _ ?_
        rw [u8s, List.getElem?_map, List.getElem?_eq_getElem (by omega), List.getD_eq_getElem?_getD, List.getElem?_eq_getElem (by omega)]
        rfl
      obtain ⟨R, hR⟩ : ∃ R, R = strOfNums (nums xs) := ⟨_, rfl⟩
      have hRs : R.size = N2 := by rw [hR, strOfNums_size, hnl]
      have hcvW : ∀ W : World, (∀ i, i < N2 → W.cell? ⟨g, i, none⟩ = some (.int .u8 ((nums xs).getD i 0))) → (convert 43 9 (.slice (some ⟨g, 0, none⟩) N2 c)).run Tryz.prog W = .ok (.string R) W := fun W h => by
        rw [hR]
        exact run_convert_bytes_arg (P := Tryz.prog) W 43 5 Tryz.underlying43 Tryz.underlying5 g 0 N2 c (nums xs) hnl (fun i hi => by rw [Nat.zero_add]; exact h i hi) 9 Tryz.underlying9
      have hrp := fun W => Tryz.strings_Repeat ⟨#[0]⟩ M W (by omega) (by show 1 * M ≤ _; omega)
      obtain ⟨Z, hZ⟩ : ∃ Z, Z = str (zs M) := ⟨_, rfl⟩
      have hrp' : ∀ W, Calls Tryz.prog 186 #[.string ⟨#[0]⟩, .int .i64 M] W fun e w' => e = .returned (.string Z) ∧ Below W.heap.size W w' := fun W => (hrp W).mono (fun e w' h => ⟨by rw [h.1, hZ, zs, ← repeat_one], h.2⟩)
      have hZs : Z.size = M := by rw [hZ, str_size, zs, List.length_replicate]
      have r1 : IntKind.i64.wrap (240 - (N2 : Int)) = (M : Int) := by rw [IntWalk.i64_in _ (by omega)]; omega
      have hne : g ≠ w.heap.size + 1 := by omega
      have hN3 : N2 + M = 240 := by omega
      have HR := Lib.hid hR
      have HZ := Lib.hid hZ
      have HM := Lib.hid hM
      have HN2 := Lib.hid hN2
      clear hrp hR hZ hM hN2 hown
      have hrp := hrp'
      have HcvW := Lib.hid hcvW
      have Hcl1 := Lib.hid hcl1
      clear hrp' hcvW hcl1
      go_wp2_with fail
      refine wp_region_held_drew (S := fun W => (convert 43 9 (.slice (some ⟨g, 0, none⟩) N2 c)).run Tryz.prog W = .ok (.string R) W) (by kernel_rfl) (HcvW.out _ Hcl1.out) (fun hHeld => ?_)
      refine wpAnyH_take (i := 0) (v := ?_) rfl (by kernel_rfl) (by kernel_rfl) (by kernel_rfl) (fun _ _ _ h => h) (Or.inl ⟨by rfl, ?_⟩) hHeld ?_
      rotate_left
      · intro wq hSw
        try dsimp only at hSw
        go_simp
        try rw [if_neg (by omega)]
        try rw [if_pos (by omega)]
        try with_reducible rfl
      try simp only [Act.put, List.setIfInBounds_toArray, List.set_cons_zero, List.set_cons_succ]
      refine wpAnyH_take (i := 1) (v := ?_) rfl (by kernel_rfl) (by kernel_rfl) (by kernel_rfl) (fun _ _ _ h => h) (Or.inl ⟨by rfl, ?_⟩) hHeld ?_
      rotate_left
      · intro wq hSw
        try dsimp only at hSw
        go_simp
        try rw [if_neg (by omega)]
        try rw [if_pos (by omega)]
        try with_reducible rfl
      try simp only [Act.put, List.setIfInBounds_toArray, List.set_cons_zero, List.set_cons_succ]
      refine wpAnyH_take (i := 2) (v := ?_) rfl (by kernel_rfl) (by kernel_rfl) (by kernel_rfl) (fun _ _ _ h => h) (Or.inl ⟨by rfl, ?_⟩) hHeld ?_
      rotate_left
      · intro wq hSw
        try dsimp only at hSw
        go_simp
        try rw [if_neg (by omega)]
        try rw [if_pos (by omega)]
        try with_reducible rfl
      try simp only [Act.put, List.setIfInBounds_toArray, List.set_cons_zero, List.set_cons_succ]
      refine wpAnyH_take (i := 3) (v := ?_) rfl (by kernel_rfl) (by kernel_rfl) (by kernel_rfl) (fun _ _ _ h => h) (Or.inl ⟨by rfl, ?_⟩) hHeld ?_
      rotate_left
      · intro wq hSw
        try dsimp only at hSw
        go_simp
        try rw [if_neg (by omega)]
        try rw [if_pos (by omega)]
        try with_reducible rfl
      try simp only [Act.put, List.setIfInBounds_toArray, List.set_cons_zero, List.set_cons_succ]
      refine wpAnyH_take (i := 4) (v := ?_) rfl (by kernel_rfl) (by kernel_rfl) (by kernel_rfl) (fun _ _ _ h => h) (Or.inl ⟨by rfl, ?_⟩) hHeld ?_
      rotate_left
      · intro wq hSw
        try dsimp only at hSw
        go_simp
        try rw [if_neg (by omega)]
        try rw [if_pos (by omega)]
        try with_reducible rfl
      try simp only [Act.put, List.setIfInBounds_toArray, List.set_cons_zero, List.set_cons_succ]
      refine wpAnyH_ready (rs := [5]) (by kernel_rfl) (by simp) ?_
      refine AllReadyH.cons rfl (fun K hK => ?_) AllReadyH.nil
      go_simp
      with_reducible refine (hrp _).mono ?_
      rintro e w3 ⟨rfl, hb3⟩
      dsimp only
      have hb3' : Below (wr.setCell ⟨w.heap.size + 1, 1, none⟩ (.int .i64 dep)).heap.size (wr.setCell ⟨w.heap.size + 1, 1, none⟩ (.int .i64 dep)) w3 := ⟨hb3.os, hb3.tape, hb3.output, hb3.size, hb3.block⟩
      have hcl3 : Hid (∀ i, i < N2 → w3.cell? ⟨g, i, none⟩ = some (.int .u8 ((nums xs).getD i 0))) := fun i hi => (hb3'.cell (p := ⟨g, i, none⟩) hgW).trans (Hcl1.out i hi)
      have hpg3 := blk_keep hpg1 hb3'
      have hres3 := blk_keep hres1 hb3'
      have hbel3 := below_base hbel1 hbel1.size hb3'
      refine hK.out _ _ (HcvW.out _ hcl3.out) (fun hHeld2 => ?_)
      clear hK K
      try clear hHeld
      have hHeld := hHeld2
      try clear hHeld2
      refine wpAnyH_take (i := 6) (v := ?_) rfl (by kernel_rfl) (by kernel_rfl) (by kernel_rfl) (fun _ _ _ h => h) (Or.inl ⟨by rfl, ?_⟩) hHeld ?_
      rotate_left
      · intro wq hSw
        try dsimp only at hSw
        go_simp
        try rw [if_neg (by omega)]
        try rw [if_pos (by omega)]
        try with_reducible rfl
      try simp only [Act.put, List.setIfInBounds_toArray, List.set_cons_zero, List.set_cons_succ]
      refine wpAnyH_take (i := 7) (v := ?_) rfl (by kernel_rfl) (by kernel_rfl) (by kernel_rfl) (fun _ _ _ h => h) (Or.inl ⟨by rfl, ?_⟩) hHeld ?_
      rotate_left
      · intro wq hSw
        try dsimp only at hSw
        go_simp
        try rw [if_neg (by omega)]
        try rw [if_pos (by omega)]
        try with_reducible rfl
      try simp only [Act.put, List.setIfInBounds_toArray, List.set_cons_zero, List.set_cons_succ]
      have c3 := blk_cell hpg3 3
      have f3 := blk_free hpg3 3
      have z3 := lt_of_block hpg3
      refine wpAnyH_ready (rs := [8]) (by kernel_rfl) (by simp) ?_
      refine AllReadyH.cons rfl (fun K hK => ?_) AllReadyH.nil
      go_simp
      refine hK.out _ _ (HcvW.out _ (fun i hi => (World.cell?_setCell_other _ _ _ _ (fun e => by injection e with e1; omega)).trans (hcl3.out i hi))) (fun hHeld2 => ?_)
      clear hK K
      try clear hHeld
      have hHeld := hHeld2
      try clear hHeld2
      refine wpAnyH_done (by kernel_rfl) ?_ _
      have hpg4 := heap_setCell_same w3 (w.heap.size + 1) 3 _ _ (.string (R ++ Z)) hpg3
      have hres4 := (heap_setCell_other w3 ⟨w.heap.size + 1, 3, none⟩ (w.heap.size + 2) (.string (R ++ Z)) (show w.heap.size + 2 ≠ w.heap.size + 1 by omega)).trans hres3
      have hbel4 := below_set (j := 3) (u := .string (R ++ Z)) hbel3 (show w.heap.size ≤ w.heap.size + 1 by omega)
      have hRZ : Hid (R ++ Z = str (bodyOf xs)) := by
        show _ = _
        rw [HR.out, HZ.out, bodyOf, encL, strOfNums]
        apply ByteArray.ext
        apply Array.toList_inj.1
        have := Hxl.out
        simp [ByteArray.data_append, HM.out, HN2.out, this]
      clear hcl3 hpg3 hres3 hbel3 hb3 hb3' c3 f3 z3 hHeld hrp
      generalize w3.setCell ⟨w.heap.size + 1, 3, none⟩ (.string (R ++ Z)) = W4 at *
      obtain ⟨T, hT⟩ : ∃ T, T = R ++ Z := ⟨_, rfl⟩
      rw [← hT] at hpg4
      have k0 := blk_cell hpg4
      have k1 := lt_of_block hpg4
      have k2 := blk_cell hres4
      have k3 := blk_free hres4
      have k4 := lt_of_block hres4
      have HTT := Lib.hid hT
      clear hT
      go_wp2
      have hW : (set4 W4 (w.heap.size + 2) (.int .i64 k) (.int .i64 dep) (.int .i64 x) (.string T)).heap[w.heap.size + 2]? = _ := set4_same hres4 (.int .i64 k) (.int .i64 dep) (.int .i64 x) (.string T)
      have hB := below_set4 hbel4 (show w.heap.size ≤ w.heap.size + 2 by omega) (.int .i64 k) (.int .i64 dep) (.int .i64 x) (.string T)
      change bodyPost _ _ _ _ _ (set4 W4 (w.heap.size + 2) (.int .i64 k) (.int .i64 dep) (.int .i64 x) (.string T))
      generalize set4 W4 (w.heap.size + 2) (.int .i64 k) (.int .i64 dep) (.int .i64 x) (.string T) = W5 at *
      have j0 := blk_cell hW 0
      have j1 := blk_cell hW 1
      have j2 := blk_cell hW 2
      have j3 := blk_cell hW 3
      rw [HTT.out, hRZ.out] at j3
      clear hW k0 k2 k3
      refine bodyPost_ret (v := .agg #[.int .i64 k, .int .i64 dep, .int .i64 x, .string (str (bodyOf xs))]) ?_ rfl ⟨rfl, hB⟩
      rw [HTT.out, hRZ.out]
      generalize str (bodyOf xs) = Y at *
      simp [results, Tryz.results164, go_sem, j0, j1, j2, j3]
end Go.Proofs.YtijhamllnnilbaaGreatDoor.Dr
namespace Go.Proofs.YtijhamllnnilbaaGreatDoor.Sp
open Go.RowKit Go.Proofs.YtijhamllnnilbaaGreatDoor.Mem Go.Proofs.YtijhamllnnilbaaGreatDoor.Pg

def usedF (k : Int) (l : List UInt8) (n : Int) : Bool := decide (0 ≤ n) && (decide (n < (pagesF k l : Int)) && decide (bt l n.toNat = 1))
theorem usedF_iff (k : Int) (l : List UInt8) (n : Int) : usedF k l n = true ↔ 0 ≤ n ∧ n < (pagesF k l : Int) ∧ bt l n.toNat = 1 := by simp [usedF]

set_option maxRecDepth 100000 in
theorem used_any (k d x n : Int) (l : List UInt8) (w : World) (hl : l.length ≤ 1000000) :
    Calls Tryz.prog 70 #[.agg #[.int .i64 k, .int .i64 d, .int .i64 x, .string (str l)], .int .i64 n] w fun e w' =>
      e = .returned (.bool (usedF k l n)) ∧ Below w.heap.size w w' := by
  have hpg := fun w => pages_any k d x l w hl
  have hpl : pagesF k l ≤ l.length := by
    by_cases h : pagesF k l = 0
    · omega
    · have := pagesF_len k l h; have := pagesF_le k l; omega
  have hbt := str_bt l
  have hss := str_size l
  generalize hs : str l = s at hpg hbt hss ⊢
  clear hs
  by_cases h0 : 0 ≤ n
  · have d0 : decide (0 ≤ n) = true := by simpa using h0
    by_cases h1 : n < (pagesF k l : Int)
    · have d1 : decide (n < (pagesF k l : Int)) = true := by simpa using h1
      obtain ⟨m, rfl⟩ : ∃ m : Nat, n = m := ⟨n.toNat, by omega⟩
      have hm : m < s.size := by omega
      have hb := hbt m hm
      have hu : usedF k l m = decide (bt l m = 1) := by simp only [usedF, d0, d1, Bool.true_and, Int.toNat_natCast]
      have Hu := Lib.hid hu
      clear hu hbt
      have hm' : (m : Int) < (s.size : Int) := by omega
      go_enter Tryz.func70, Tryz.ntmps70
      go_wp2_with fail
      refine (hpg _).mono ?_
      rintro e w1 ⟨rfl, hb1⟩
      have hblk := blk_below hb1
      have hc := blk_cell hblk
      have hf := blk_free hblk
      have hsz := lt_of_block hblk
      have hbw := below_tr (below_al (Below.refl _ w) _) hb1
      clear hb1 hpg
      by_cases hone : bt l m = 1
      · have e1 : (bt l m == 1) = true := by simpa using hone
        have Ho := Lib.hid hone
        clear hone
        go_wp2
        go_ret
        exact ⟨by rw [Hu.out]; simp [Ho.out], hbw⟩
      · have e1 : (bt l m == 1) = false := by simpa using hone
        have Ho := Lib.hid hone
        clear hone
        go_wp2
        go_ret
        exact ⟨by rw [Hu.out]; simp [Ho.out], hbw⟩
    · have d1 : decide (n < (pagesF k l : Int)) = false := by simpa using h1
      have hu : usedF k l n = false := by simp only [usedF, d0, d1, Bool.true_and, Bool.false_and]
      go_enter Tryz.func70, Tryz.ntmps70
      go_wp2_with fail
      refine (hpg _).mono ?_
      rintro e w1 ⟨rfl, hb1⟩
      have hblk := blk_below hb1
      have hc := blk_cell hblk
      have hf := blk_free hblk
      have hsz := lt_of_block hblk
      have hbw := below_tr (below_al (Below.refl _ w) _) hb1
      clear hb1 hpg
      go_wp2
      go_ret
      exact ⟨by rw [hu]; rfl, hbw⟩
  · have d0 : decide (0 ≤ n) = false := by simpa using h0
    have hu : usedF k l n = false := by simp only [usedF, d0, Bool.false_and]
    go_enter Tryz.func70, Tryz.ntmps70
    go_wp2
    go_ret
    exact ⟨by first | rfl | (rw [hu]; rfl), below_al (Below.refl _ w) _⟩
end Go.Proofs.YtijhamllnnilbaaGreatDoor.Sp
namespace Go.Proofs.YtijhamllnnilbaaGreatDoor.Pg
open Go.RowKit Go.Proofs.YtijhamllnnilbaaGreatDoor.Mem

set_option maxRecDepth 100000 in
theorem conv_one (W : World) (g c : Nat) (b : UInt8) (h : W.cell? ⟨g, 0, none⟩ = some (.int .u8 b.toNat)) :
    (convert 43 9 (.slice (some ⟨g, 0, none⟩) 1 c)).run Tryz.prog W = .ok (.string ⟨#[b]⟩) W := by
  have h0 : ∀ i, i < 1 → W.cell? ⟨g, 0 + i, none⟩ = some (.int .u8 ([(b.toNat : Int)].getD i 0)) := fun i hi => by
    obtain rfl : i = 0 := by omega
    simpa using h
  have := run_convert_bytes_arg (P := Tryz.prog) W 43 5 Tryz.underlying43 Tryz.underlying5 g 0 1 c [(b.toNat : Int)] rfl h0 9 Tryz.underlying9
  rw [this]
  simp [strOfNums]

theorem cut_set (l : List UInt8) (n : Nat) (b : UInt8) (hn : n < l.length) : (str l).extract 0 n ++ ⟨#[b]⟩ ++ (str l).extract (n + 1) (str l).size = str (l.set n b) := by
  apply ByteArray.ext
  apply Array.toList_inj.1
  simp [ByteArray.data_append, ByteArray.data_extract, str_size]
  rw [List.set_eq_take_append_cons_drop, if_pos hn, List.take_of_length_le (l := List.drop (n + 1) l) (by simp)]

set_option maxRecDepth 100000 in
theorem conv_zeros (W : World) (g n c : Nat) (h : ∀ i, i < n → W.cell? ⟨g, i, none⟩ = some (.int .u8 0)) :
    (convert 43 9 (.slice (some ⟨g, 0, none⟩) n c)).run Tryz.prog W = .ok (.string (str (zs n))) W := by
  have h0 : ∀ i, i < n → W.cell? ⟨g, 0 + i, none⟩ = some (.int .u8 ((List.replicate n (0 : Int)).getD i 0)) := fun i hi => by
    rw [Nat.zero_add, List.getD_eq_getElem?_getD, List.getElem?_replicate, if_pos hi]
    exact h i hi
  have := run_convert_bytes_arg (P := Tryz.prog) W 43 5 Tryz.underlying43 Tryz.underlying5 g 0 n c (List.replicate n (0 : Int)) (by simp) h0 9 Tryz.underlying9
  rw [this]
  congr 2
  simp [strOfNums, zs, str]

set_option maxRecDepth 100000 in
theorem made_cell (n i : Nat) (h : i < n) : (madeCells (Value.int .u8 0).cells n)[i]? = some (.int .u8 0) := by
  unfold madeCells
  simp [Value.cells, h, Nat.mod_one]

set_option maxRecDepth 100000 in
theorem make_zeros (n : Nat) (hn : n ≤ 1000) : ∃ A : Array Value, (∀ W : World, (Instr.makeSlice 43 (.int .i64 n) (.int .i64 n)).run Tryz.prog W = .ok (.slice (some ⟨W.heap.size, 0, none⟩) n n) (W.alloc (.cells A 5))) ∧
    ∀ W : World, (convert 43 9 (.slice (some ⟨W.heap.size, 0, none⟩) n n)).run Tryz.prog (W.alloc (.cells A 5)) = .ok (.string (str (zs n))) (W.alloc (.cells A 5)) := by
  refine ⟨madeCells (Value.int .u8 0).cells n, fun W => ?_, fun W => ?_⟩
  · have := run_makeSlice (P := Tryz.prog) W 43 5 Tryz.t5 (.int .u8 0) Tryz.underlying43 (by kernel_rfl) (by kernel_rfl) .i64 .i64 n n (by omega) (Int.le_refl _) (by show (n : Int).toNat * 1 ≤ _; omega) (by show ((1 : Nat) : Int) * n ≤ _; omega) (by omega)
    rw [this]
    simp only [Int.toNat_natCast]
    rw [show n * (Tryz.t5).size = n from Nat.mul_one n]
  · apply conv_zeros
    intro i hi
    rw [World.cell?_alloc_at _ _ _ _ rfl]
    exact made_cell n i hi

set_option maxRecDepth 100000 in
theorem refZeros_any (n : Nat) (w : World) (hn : n ≤ 1000) :
    Calls Tryz.prog 23 #[.int .i64 n] w fun e w' => e = .returned (.string (str (zs n))) ∧ Below w.heap.size w w' := by
  have hmax : max (n : Int) 0 = (n : Int) := by omega
  obtain ⟨A, hmk, hcv⟩ := make_zeros n hn
  generalize str (zs n) = z at *
  go_enter Tryz.func23, Tryz.ntmps23
  go_wp2
  go_ret
  exact ⟨rfl, below_al (Below.refl _ _) _⟩
end Go.Proofs.YtijhamllnnilbaaGreatDoor.Pg
namespace Go.Proofs.YtijhamllnnilbaaGreatDoor.Gr
open Go.RowKit Go.Proofs.YtijhamllnnilbaaGreatDoor.Mem Go.Proofs.YtijhamllnnilbaaGreatDoor.Pg Go.ChangeShapes Go.WideShapes Go.Deep Go.Joins
theorem tab_of_reads {W : World} (h : Lib.VarReads Tryz.prog W "strings.asciiSpace" (Lib.tabData .u8 Lib.asciiSpaceTab)) : Tab W := by
  obtain ⟨g', t', cs, fuel, p, hg', ht', hvar, hd⟩ := h
  obtain rfl := Option.some.inj ((show Tryz.prog.globalNamed "strings.asciiSpace" = some 1 by kernel_rfl).symm.trans hg')
  obtain rfl := Option.some.inj ((show (Tryz.prog.globals[1]?).map (·.type) = some 326 by kernel_rfl).symm.trans ht')
  unfold Tab Lib.TabIs
  rw [hvar, ← Lib.cells_of_tab (n := 256) Tryz.underlying326 Tryz.underlying5 (by kernel_rfl) (by kernel_rfl) hd]
end Go.Proofs.YtijhamllnnilbaaGreatDoor.Gr
