/- Lemmas of the claim, in their order:
- The store of chapter 18's laws, and how it reads; what a group over it is; package group's New, Taken, Bytes.
- Plain mathematics of chapter 9: what a map is, byte by byte. No program in sight.
-/
import Derived.Test.YtijhamllnnilbaaGreatDoorU12
import Derived.Deep.RegionHeld
import Derived.RegionTactic
import Derived.Carry
import Derived.Test.YtijhamllnnilbaaGreatDoorU09
set_option linter.unusedVariables false
set_option linter.unusedSimpArgs false
namespace Go.Proofs.YtijhamllnnilbaaGreatDoor.Gr
open Go.RowKit Go.Proofs.YtijhamllnnilbaaGreatDoor.Mem Go.Proofs.YtijhamllnnilbaaGreatDoor.Pg Go.Proofs.YtijhamllnnilbaaGreatDoor.Kp
set_option linter.unusedSimpArgs false
set_option linter.unusedVariables false

/-- A store: block sb; its pages' strings in block qb. -/
structure Sto (w : World) (sb qb n c : Nat) (dead : Int) (B : Nat → List UInt8) : Prop where
  sto : w.heap[sb]? = some (.cells #[.slice (some ⟨qb, 0, none⟩) n c, .int .i64 dead] 115 (0, 0))
  pgs : ∃ cs, w.heap[qb]? = some (.cells cs 9 (0, 0)) ∧ ∀ i, i < n → cs[i]? = some (.string (str (B i)))
  le : n ≤ 64
  ne : sb ≠ qb
  sm : ∀ i, i < n → (B i).length ≤ 1000
/-- What the store tells of a page. -/
def rd (n : Nat) (dead : Int) (B : Nat → List UInt8) (i : Int) : List UInt8 × Int := if i = dead then ([], 10) else if 0 ≤ i ∧ i < n then (B i.toNat, 0) else ([], 12)
section
variable {w w' : World} {sb qb n c : Nat} {dead : Int} {B : Nat → List UInt8}
theorem Sto.block (h : Sto w sb qb n c dead B) (e1 : w'.heap[sb]? = w.heap[sb]?) (e2 : w'.heap[qb]? = w.heap[qb]?) : Sto w' sb qb n c dead B := by
  obtain ⟨cs, h1, h2⟩ := h.pgs
  exact ⟨e1.trans h.sto, ⟨cs, e2.trans h1, h2⟩, h.le, h.ne, h.sm⟩
theorem Sto.rd_len (h : Sto w sb qb n c dead B) (i : Int) : (rd n dead B i).1.length ≤ 1000 := by
  unfold rd
  split
  · simp
  · split
    · exact h.sm _ (by omega)
    · simp
theorem Sto.lt1 (h : Sto w sb qb n c dead B) : sb < w.heap.size := lt_of_block h.sto
theorem Sto.lt2 (h : Sto w sb qb n c dead B) : qb < w.heap.size := by
  obtain ⟨cs, h1, _⟩ := h.pgs
  exact lt_of_block h1
theorem Sto.below (h : Sto w sb qb n c dead B) (k : Below w.heap.size w w') : Sto w' sb qb n c dead B := h.block (k.block _ h.lt1) (k.block _ h.lt2)
theorem Sto.keep {S : Nat → Prop} (h : Sto w sb qb n c dead B) (k : Keep S w w') (h1 : ¬ S sb) (h2 : ¬ S qb) : Sto w' sb qb n c dead B := h.block (k.block _ h.lt1 h1) (k.block _ h.lt2 h2)
end
set_option maxRecDepth 100000 in
theorem read_any (w : World) (sb qb n c : Nat) (dead : Int) (B : Nat → List UInt8) (i : Int) (h : Sto w sb qb n c dead B) :
    Calls Tryz.prog 16 #[.pointer (some ⟨sb, 0, none⟩), .int .i64 i] w fun e w' => e = .returned (.tuple #[.string (str (rd n dead B i).1), .int .i64 (rd n dead B i).2]) ∧ w' = w := by
  have hs := h.sto
  have h64 := h.le
  obtain ⟨cs, hq, hcs⟩ := h.pgs
  have c1 := blk_cell hs
  have z1 := lt_of_block hs
  have z2 := lt_of_block hq
  by_cases hd : i = dead
  · have e : rd n dead B i = ([], 10) := if_pos hd
    rw [e]
    have d1 : (i == dead) = true := by simpa using hd
    have d1' : decide (i = dead) = true := by simpa using hd
    clear hd hs hq hcs h e
    go_enter Tryz.func16, Tryz.ntmps16
    go_wp2_with fail
    go_ret2
    exact ⟨rfl, rfl⟩
  · have d1 : (i == dead) = false := by simpa using hd
    have d1' : decide (i = dead) = false := by simpa using hd
    by_cases h0 : i < 0
    · have e : rd n dead B i = ([], 12) := by unfold rd; rw [if_neg hd, if_neg (by omega)]
      rw [e]
      have d2 : decide (i < 0) = true := by simpa using h0
      clear hd hs hq hcs h e h0
      go_enter Tryz.func16, Tryz.ntmps16
      go_wp2_with fail
      go_ret2
      exact ⟨rfl, rfl⟩
    · have d2 : decide (i < 0) = false := by simpa using h0
      obtain ⟨j, rfl⟩ := Int.eq_ofNat_of_zero_le (show 0 ≤ i by omega)
      by_cases hn : j < n
      · have e : rd n dead B j = (B j, 0) := by unfold rd; rw [if_neg hd, if_pos ⟨by omega, by omega⟩, Int.toNat_natCast]
        rw [e]
        have c2 := (blk_cell hq j).trans (hcs j hn)
        have d3 : decide ((n : Int) ≤ (j : Int)) = false := by simp; omega
        have d3' : decide (n ≤ j) = false := by simp; omega
        obtain ⟨T, hT⟩ : ∃ T, T = str (B j) := ⟨_, rfl⟩
        simp only
        rw [← hT] at c2 ⊢
        clear hd hs hq hcs h e h0 hT
        go_enter Tryz.func16, Tryz.ntmps16
        go_wp2_with fail
        go_ret2
        exact ⟨rfl, rfl⟩
      · have e : rd n dead B j = ([], 12) := by unfold rd; rw [if_neg hd, if_neg (by omega)]
        rw [e]
        have d3 : decide ((n : Int) ≤ (j : Int)) = true := by simp; omega
        have d3' : decide (n ≤ j) = true := by simp; omega
        clear hd hs hq hcs h e h0
        go_enter Tryz.func16, Tryz.ntmps16
        go_wp2_with fail
        go_ret2
        exact ⟨rfl, rfl⟩

/-- How a group reads. -/
abbrev rdv (sb : Nat) : Value := .func (.func 16) #[.pointer (some ⟨sb, 0, none⟩)] #[]
/-- A group: block gb; its map in block mb, that holds M; so many pages taken. -/
structure Grp (w : World) (gb mb sb : Nat) (M : Int → Option (List UInt8)) (tk : Int) : Prop where
  grp : w.heap[gb]? = some (.cells #[rdv sb, .map (some mb), .int .i64 tk] 119 (0, 0))
  map : MapIs w mb M
section
variable {w w' : World} {gb mb sb : Nat} {M : Int → Option (List UInt8)} {tk : Int}
theorem Grp.lt1 (h : Grp w gb mb sb M tk) : gb < w.heap.size := lt_of_block h.grp
theorem Grp.lt2 (h : Grp w gb mb sb M tk) : mb < w.heap.size := h.map.lt
theorem Grp.block (h : Grp w gb mb sb M tk) (e1 : w'.heap[gb]? = w.heap[gb]?) (e2 : w'.heap[mb]? = w.heap[mb]?) : Grp w' gb mb sb M tk := ⟨e1.trans h.grp, h.map.block e2⟩
theorem Grp.below (h : Grp w gb mb sb M tk) (k : Below w.heap.size w w') : Grp w' gb mb sb M tk := h.block (k.block _ h.lt1) (k.block _ h.lt2)
theorem Grp.keep {S : Nat → Prop} (h : Grp w gb mb sb M tk) (k : Keep S w w') (h1 : ¬ S gb) (h2 : ¬ S mb) : Grp w' gb mb sb M tk := h.block (k.block _ h.lt1 h1) (k.block _ h.lt2 h2)
end
theorem func_not_nil (f : Fn) (a b : Array Value) (w : World) : (binOp BinOp.eql 116 (.func f a b) .nilFunc).run Tryz.prog w = .ok (.bool false) w := by kernel_rfl

set_option maxRecDepth 100000 in
theorem gnew_any (w : World) (sb : Nat) :
    Calls Tryz.prog 15 #[rdv sb] w fun e w' => ∃ gb mb, e = .returned (.pointer (some ⟨gb, 0, none⟩)) ∧ w.heap.size ≤ mb ∧ w.heap.size ≤ gb ∧ gb ≠ mb ∧ Below w.heap.size w w' ∧ Grp w' gb mb sb (fun _ => none) 0 := by
  have hnn := func_not_nil (.func 16) #[.pointer (some ⟨sb, 0, none⟩)] #[]
  have hmk : ∀ W : World, (Instr.makeMap 117 none).run Tryz.prog W = .ok (.map (some W.heap.size)) (W.alloc (.map #[] 0)) := fun W => run_makeMap _ W
  go_enter Tryz.func15, Tryz.ntmps15
  go_wp2_with fail
  go_ret
  refine ⟨w.heap.size + 1, w.heap.size, rfl, Nat.le_refl _, by omega, by omega, below_al (below_al (Below.refl _ w) _) _, ?_, ?_⟩
  · have := heap_alloc_new (w.alloc (.map #[] 0)) (.cells #[rdv sb, .map (some w.heap.size), .int .i64 0] 119)
    simpa using this
  · exact (MapIs.made w).block (heap_alloc_old _ _ (by simp))
end Go.Proofs.YtijhamllnnilbaaGreatDoor.Gr
namespace Go.Proofs.YtijhamllnnilbaaGreatDoor.Sp
open Go.RowKit Go.Proofs.YtijhamllnnilbaaGreatDoor.Mem Go.Proofs.YtijhamllnnilbaaGreatDoor.Pg

theorem bt_get (l : List UInt8) (i : Nat) (h : i < l.length) : bt l i = (l[i].toNat : Int) := (bt_eq l i h l[i]).2 rfl
theorem bt_set (l : List UInt8) (i : Nat) (b : UInt8) (h : i < l.length) (j : Nat) : bt (l.set i b) j = if i = j then (b.toNat : Int) else bt l j := by
  unfold bt
  rw [List.getD_eq_getElem?_getD, List.getD_eq_getElem?_getD, List.getElem?_set]
  split
  · subst_vars; simp
  · rfl
theorem bt_take (l : List UInt8) (n i : Nat) (h : i < n) : bt (l.take n) i = bt l i := by
  unfold bt
  rw [List.getD_eq_getElem?_getD, List.getD_eq_getElem?_getD, List.getElem?_take_of_lt h]
/-- A map of n pages. -/
structure IsMap (n : Nat) (l : List UInt8) : Prop where
  len : l.length = 240
  ge : 8 ≤ n
  le : n ≤ 64
  ok : ∀ i, i < n → bt l i = 1 ∨ bt l i = 2
  past : ∀ i, n ≤ i → bt l i = 0
  b0 : bt l 0 = 1
  b1 : bt l 1 = 1

theorem pagesF_map {n : Nat} {l : List UInt8} (h : IsMap n l) : pagesF 2 l = n := by
  have ht : Lib.trimRightB l 0 = l.take n := by
    apply Lib.trimRightB_take l 0 n (by have := h.len; have := h.le; omega)
    · intro j b hj hb
      have h0 := h.past j hj
      obtain ⟨hl, rfl⟩ := List.getElem?_eq_some_iff.1 hb
      rw [bt_get l j hl] at h0
      exact UInt8.toNat_inj.1 (by simpa using h0)
    · intro b hn hb hb0
      obtain ⟨hl, rfl⟩ := List.getElem?_eq_some_iff.1 hb
      have h1 := h.ok (n - 1) (by omega)
      rw [bt_get l _ hl, hb0] at h1
      simp at h1
  have hlen : (l.take n).length = n := by rw [List.length_take]; have := h.len; have := h.le; omega
  have hg := h.ge
  unfold pagesF
  rw [if_pos ⟨rfl, h.len⟩, ht, hlen, if_pos]
  refine ⟨h.ge, h.le, ?_, ?_, ?_⟩
  · rw [bt_take l n 0 (by omega)]; exact h.b0
  · rw [bt_take l n 1 (by omega)]; exact h.b1
  · rw [← okTo_all, hlen]
    intro j hj
    rw [bt_take l n j hj]
    exact h.ok j hj
theorem IsMap.set {n : Nat} {l : List UInt8} (h : IsMap n l) (i : Nat) (b : UInt8) (h2 : 2 ≤ i) (hi : i < n) (hb : b = 1 ∨ b = 2) : IsMap n (l.set i b) := by
  have hl := h.len
  have hle := h.le
  have hbt := bt_set l i b (by omega)
  refine ⟨by rw [List.length_set]; exact hl, h.ge, hle, ?_, ?_, ?_, ?_⟩
  · intro j hj
    rw [hbt]
    split
    · rcases hb with rfl | rfl
      · left; rfl
      · right; rfl
    · exact h.ok j hj
  · intro j hj
    rw [hbt, if_neg (by omega)]
    exact h.past j hj
  · rw [hbt, if_neg (by omega)]; exact h.b0
  · rw [hbt, if_neg (by omega)]; exact h.b1

theorem bt_newL (n : Nat) (hn : n ≤ 240) (i : Nat) : bt (newL n) i = if i < n then (if i < 2 then 1 else 2) else 0 := by
  induction n with
  | zero =>
    rw [if_neg (by omega)]
    unfold bt
    rw [newL, zs, List.getD_eq_getElem?_getD, List.getElem?_replicate]
    split <;> rfl
  | succ n ih =>
    have hl := newL_len n
    have ih := ih (by omega)
    rw [newL]
    split
    · rw [bt_set _ n 1 (by rw [List.length_set, hl]; omega), bt_set _ n 2 (by rw [hl]; omega), ih]
      split
      · rw [if_pos (by omega), if_pos (by omega)]; rfl
      · by_cases h : i < n
        · rw [if_pos h, if_pos (show i < n + 1 by omega)]
        · rw [if_neg h, if_neg (show ¬ i < n + 1 by omega)]
    · rw [bt_set _ n 2 (by rw [hl]; omega), ih]
      split
      · rw [if_pos (by omega), if_neg (by omega)]; rfl
      · by_cases h : i < n
        · rw [if_pos h, if_pos (show i < n + 1 by omega)]
        · rw [if_neg h, if_neg (show ¬ i < n + 1 by omega)]
theorem isMap_new (n : Nat) (h8 : 8 ≤ n) (h64 : n ≤ 64) : IsMap n (newL n) := by
  have hb := bt_newL n (by omega)
  refine ⟨newL_len n, h8, h64, ?_, ?_, ?_, ?_⟩
  · intro i hi
    rw [hb, if_pos hi]
    split
    · left; rfl
    · right; rfl
  · intro i hi
    rw [hb, if_neg (by omega)]
  · rw [hb, if_pos (by omega), if_pos (by omega)]
  · rw [hb, if_pos (by omega), if_pos (by omega)]

theorem usedF_map {n : Nat} {l : List UInt8} (h : IsMap n l) (i : Int) : usedF 2 l i = true ↔ 0 ≤ i ∧ i < (n : Int) ∧ bt l i.toNat = 1 := by
  rw [usedF_iff, pagesF_map h]
theorem idx_spec (l : List UInt8) (c : UInt8) : (Lib.indexByte l c = -1 ∧ ∀ j : Nat, l[j]? ≠ some c) ∨ ∃ i : Nat, Lib.indexByte l c = i ∧ i < l.length ∧ l[i]? = some c ∧ ∀ j : Nat, j < i → l[j]? ≠ some c := by
  induction l with
  | nil => left; exact ⟨rfl, by simp⟩
  | cons b l ih =>
    unfold Lib.indexByte
    by_cases hb : b = c
    · right
      refine ⟨0, ?_, by simp, by simp [hb], fun j hj => absurd hj (by omega)⟩
      simp [hb]
    · have hb' : (b == c) = false := by simpa using hb
      rcases ih with ⟨h1, h2⟩ | ⟨i, h1, h2, h3, h4⟩
      · left
        rw [h1]
        refine ⟨by simp [hb'], fun j => ?_⟩
        cases j with
        | zero => simpa using hb
        | succ j => simpa using h2 j
      · right
        rw [h1]
        refine ⟨i + 1, ?_, by simpa using h2, by simpa using h3, fun j hj => ?_⟩
        · have : ((i : Int) == -1) = false := by simp
          simp [hb', this]
        · cases j with
          | zero => simpa using hb
          | succ j => simpa using h4 j (by omega)
/-- Take's least free page. -/
theorem takeI_map {n : Nat} {l : List UInt8} (h : IsMap n l) :
    (takeI 2 l = -1 ∧ ∀ i, i < n → bt l i = 1) ∨ ∃ i : Nat, takeI 2 l = i ∧ 2 ≤ i ∧ i < n ∧ bt l i = 2 ∧ ∀ j, j < i → bt l j = 1 := by
  unfold takeI
  rw [pagesF_map h]
  have hlen : (l.take n).length = n := by rw [List.length_take]; have := h.len; have := h.le; omega
  have key : ∀ j, j < n → ((l.take n)[j]? = some 2 ↔ bt l j = 2) := fun j hj => by
    have hl : j < (l.take n).length := by omega
    rw [← bt_take l n j hj]
    rw [List.getElem?_eq_getElem hl, Option.some.injEq]
    exact (bt_eq _ j hl 2).symm
  rcases idx_spec (l.take n) 2 with ⟨h1, h2⟩ | ⟨i, h1, h2, h3, h4⟩
  · left
    refine ⟨h1, fun i hi => ?_⟩
    rcases h.ok i hi with h5 | h5
    · exact h5
    · exact absurd ((key i hi).2 h5) (h2 i)
  · right
    rw [hlen] at h2
    have h5 := (key i h2).1 h3
    refine ⟨i, h1, ?_, h2, h5, fun j hj => ?_⟩
    · rcases Nat.lt_or_ge i 2 with h6 | h6
      · match i, h6 with
        | 0, _ => rw [h.b0] at h5; simp at h5
        | 1, _ => rw [h.b1] at h5; simp at h5
      · exact h6
    · rcases h.ok j (by omega) with h6 | h6
      · exact h6
      · exact absurd ((key j (by omega)).2 h6) (h4 j hj)
end Go.Proofs.YtijhamllnnilbaaGreatDoor.Sp
