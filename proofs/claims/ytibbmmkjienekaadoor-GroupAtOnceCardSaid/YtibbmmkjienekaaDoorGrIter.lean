/- Going over a map of pages; its keys, sorted. -/
import Derived.Test.YtibbmmkjienekaaDoorGrStore
import Derived.Sort.OwnSortedInts
namespace Go.Proofs.YtibbmmkjienekaaDoor.Gr
open Go.RowKit Go.Proofs.YtibbmmkjienekaaDoor.Mem Go.Proofs.YtibbmmkjienekaaDoor.Pg Go.Proofs.YtibbmmkjienekaaDoor.Kp

/-- Going over the map in block b, by block r: these keys are still to come. -/
def Iter (w : World) (b r : Nat) (todo : List Int) : Prop :=
  ∃ (n : Nat) (D : DataW Unit) (left : Lit → Bool) (cnt : Nat), w.ranges Tryd.prog 3 (plainElem Tryd.prog 9) b r n D left cnt ∧ todo.Nodup ∧ (∀ i, left (kl i) = true ↔ i ∈ todo)
theorem Iter.kept {w w' : World} {b r : Nat} {todo : List Int} {row : Option Nat} (h : Iter w b r todo) (hg : w.grownBy w' row) (hb : some b ≠ row) (hr : some r ≠ row) : Iter w' b r todo := by
  obtain ⟨n, D, left, cnt, h1, h2⟩ := h
  exact ⟨n, D, left, cnt, h1.kept hg hb hr, h2⟩
theorem Iter.lt {w : World} {b r : Nat} {todo : List Int} (h : Iter w b r todo) : r < w.heap.size := by
  obtain ⟨n, D, left, cnt, h1, h2⟩ := h
  exact h1.lt
theorem Iter.left {w w' : World} {b r : Nat} {todo : List Int} {row : Option Nat} (h : Iter w b r todo) (hg : w.grownBy w' row) (hb : some b ≠ row) (hr : some r ≠ row) : w'.rangeLeft b r = w.rangeLeft b r := by
  obtain ⟨n, D, left, cnt, h1, h2⟩ := h
  rw [h1.left_eq, (h1.kept hg hb hr).left_eq]
theorem Iter.start {w : World} {b : Nat} {F : Int → Option (List UInt8)} (h : MapIs w b F) :
    ∃ w' ks, (Instr.range 64 (.map (some b))).run Tryd.prog w = .ok (.pointer (some ⟨w.heap.size, 0, none⟩)) w' ∧ Iter w' b w.heap.size ks ∧ w.grownBy w' none ∧ w'.heap.size = w.heap.size + 1 ∧ ks.Nodup ∧ (∀ i, i ∈ ks ↔ F i ≠ none) := by
  obtain ⟨D, ks, ho, hn, hsz, hks, hhas, hat⟩ := h.ex
  obtain ⟨w', hrun, hr, hg, hs⟩ := ho.range ikeyed Tryd.underlying64
  refine ⟨w', ks, hrun, ⟨_, D, _, _, hr, hn, fun i => ?_⟩, hg, hs, hn, hks⟩
  rw [hhas i, hks i]
  rcases F i with _ | l
  · simp
  · simp
theorem kl_same (i j : Int) : (kl j).sameKey (kl i) = decide (j = i) := by
  by_cases h : j = i
  · subst h
    rw [decide_eq_true rfl]
    exact WideAt.sameKey_self (a := kl j) trivial
  · rw [decide_eq_false h]
    exact Maps.sameKey_ne (kl_ne h)
theorem Iter.next {w : World} {b r : Nat} {todo : List Int} (h : Iter w b r todo) (ty : TypeId) :
    (todo = [] ∧ (Instr.next (.pointer (some ⟨r, 0, none⟩)) false ty).run Tryd.prog w = .ok (.tuple #[.bool false]) w) ∨
    ∃ (i : Int) (s : ByteArray) (w' : World), i ∈ todo ∧ (Instr.next (.pointer (some ⟨r, 0, none⟩)) false ty).run Tryd.prog w = .ok (.tuple #[.bool true, .int .i64 i, .string s]) w' ∧ (Instr.entry (.pointer (some ⟨r, 0, none⟩))).run Tryd.prog w' = .ok (.tuple #[.int .i64 i, .string s]) w' ∧
      Iter w' b r (todo.erase i) ∧ w'.rangeLeft b r < w.rangeLeft b r ∧ w.grownBy w' (some r) ∧ w'.heap.size = w.heap.size := by
  obtain ⟨n, D, left, cnt, h1, hn, hl⟩ := h
  rcases h1.next ikeyed ty with ⟨h0, hf, hrun⟩ | ⟨key, v, kl', y, w', cnt', hkey, hlk, hv, hat, hrun, hrg, hlt, hgr, hsz, hen⟩
  · refine .inl ⟨?_, hrun⟩
    rcases todo with _ | ⟨i, t⟩
    · rfl
    · have := (hl i).2 (by simp)
      rw [hf] at this
      cases this
  · obtain ⟨i, rfl, rfl, hw⟩ := Maps.keyOf_int_inv Tryd.underlying3 hkey
    obtain ⟨s, rfl, _, _⟩ := plainElem_string_inv Tryd.underlying9 hv
    refine .inr ⟨i, s, w', (hl i).1 hlk, hrun, hen, ⟨n, D, _, cnt', hrg, hn.erase _, fun j => ?_⟩, ?_, hgr, hsz⟩
    · rw [hn.mem_erase_iff, kl_same, ← hl j]
      by_cases e : j = i
      · simp [e]
      · simp [e]
    · rw [hrg.left_eq, h1.left_eq]
      exact hlt
/-- slices.Sort over a slice of the call's own. -/
theorem sort_own (w : World) (base n : Nat) (v : Value) (xs : List Int) (h : w.ownsRow base 3 1 v n (ints xs)) (hn : n ≤ 1000000) :
    Calls Tryd.prog 26 #[v] w fun e w' => e = .returned (.tuple #[]) ∧ w'.ownsRow base 3 1 v n (ints (xs.mergeSort fun x y => decide (x ≤ y))) ∧ w.grownBy w' v.ownBlock := by
  have hx : xs.length = n := by have := h.1; simpa [ints] using this
  rcases h.2 with ⟨rfl, rfl⟩ | ⟨g, cap, cur, rfl, hb, hblk, h1, h2, h3, h4⟩
  · have := Tryd.slices_Sort_int_none none 0 w
    refine this.mono ?_
    rintro e w' ⟨rfl, rfl⟩
    obtain rfl : xs = [] := List.eq_nil_of_length_eq_zero hx
    exact ⟨rfl, by simpa [ints] using h, ⟨rfl, rfl, rfl, Nat.le_refl _, fun _ _ _ => rfl⟩⟩
  · subst hx
    have hH := holds_of_blockI (ss := xs) hblk (by simpa [ints] using h4)
    have hs := Tryd.slices_Sort_int g 0 cap xs w hH (lt_of_block hblk) (by omega)
    refine hs.mono ?_
    rintro e w' ⟨rfl, k, os, rfl⟩
    refine ⟨rfl, ?_, grownBy_sortedI _⟩
    exact ownsRow_sortedI (ss := xs) (by simp) hb hblk h1 h2 h3
end Go.Proofs.YtibbmmkjienekaaDoor.Gr
