/- Plain mathematics of chapter 9: maps of pages as lists of bytes. No program in sight. -/
import Derived.Lib.TrimByte
namespace Go.Proofs.YtibbmmkjienekaaDoor.Sp

/-- Byte i as a number. -/
def bt (l : List UInt8) (i : Nat) : Int := ((l.getD i 0).toNat : Int)
def okB (c : UInt8) : Bool := c == 1 || c == 2
/-- How many pages a map has. -/
def pagesF (k : Int) (l : List UInt8) : Nat :=
  if k = 2 ∧ l.length = 240 then
    (if 8 ≤ (Lib.trimRightB l 0).length ∧ (Lib.trimRightB l 0).length ≤ 64 ∧ bt (Lib.trimRightB l 0) 0 = 1 ∧ bt (Lib.trimRightB l 0) 1 = 1 ∧ (Lib.trimRightB l 0).all okB = true then (Lib.trimRightB l 0).length else 0)
  else 0

theorem bt_range (l : List UInt8) (i : Nat) : 0 ≤ bt l i ∧ bt l i ≤ 255 := by
  unfold bt
  have := (l.getD i 0).toNat_lt
  omega
theorem bt_eq (l : List UInt8) (i : Nat) (h : i < l.length) (c : UInt8) : bt l i = (c.toNat : Int) ↔ l[i] = c := by
  unfold bt
  rw [List.getD_eq_getElem?_getD, List.getElem?_eq_getElem h, Option.getD_some]
  constructor
  · intro h; exact UInt8.toNat_inj.1 (by omega)
  · intro h; rw [h]
/-- All bytes up to k are fine. -/
def OkTo (l : List UInt8) (k : Nat) : Prop := ∀ j, j < k → bt l j = 1 ∨ bt l j = 2
theorem okTo_all (l : List UInt8) : OkTo l l.length ↔ l.all okB = true := by
  rw [List.all_eq_true]
  constructor
  · intro h c hc
    obtain ⟨i, hi, rfl⟩ := List.getElem_of_mem hc
    have := h i hi
    unfold okB
    rcases this with h1 | h1
    · rw [(bt_eq l i hi 1).1 h1]; rfl
    · rw [(bt_eq l i hi 2).1 h1]; rfl
  · intro h j hj
    have := h l[j] (List.getElem_mem hj)
    unfold okB at this
    simp at this
    rcases this with h1 | h1
    · left; exact (bt_eq l j hj 1).2 h1
    · right; exact (bt_eq l j hj 2).2 h1
theorem OkTo.succ {l : List UInt8} {k : Nat} (h : OkTo l k) (hk : bt l k = 1 ∨ bt l k = 2) : OkTo l (k + 1) := fun j hj => by
  rcases Nat.lt_or_ge j k with h1 | h1
  · exact h j h1
  · obtain rfl : j = k := by omega
    exact hk

theorem trim_le (l : List UInt8) : (Lib.trimRightB l 0).length ≤ l.length := by
  unfold Lib.trimRightB
  rw [List.length_reverse]
  have := (List.dropWhile_sublist (fun x => x == (0 : UInt8)) (l := l.reverse)).length_le
  simpa using this
theorem pagesF_le (k : Int) (l : List UInt8) : pagesF k l ≤ 64 := by
  unfold pagesF
  split
  · split
    · rename_i h; exact h.2.1
    · omega
  · omega
theorem pagesF_len (k : Int) (l : List UInt8) (h : pagesF k l ≠ 0) : k = 2 ∧ l.length = 240 ∧ 8 ≤ pagesF k l := by
  unfold pagesF at h ⊢
  split at h
  · rename_i h1
    split at h
    · rename_i h2
      rw [if_pos h1, if_pos h2]
      exact ⟨h1.1, h1.2, h2.1⟩
    · exact absurd rfl h
  · exact absurd rfl h
end Go.Proofs.YtibbmmkjienekaaDoor.Sp
