/- Chapter 10 in plain Lean: the entries of a directory page. No program in sight. -/
import Derived.Test.YtlinolgbpnokcaaGreatDoorPage
namespace Go.Proofs.YtlinolgbpnokcaaGreatDoor.Dr
open Go.Proofs.YtlinolgbpnokcaaGreatDoor.Pg

def bt (l : List UInt8) (i : Nat) : Int := (l.getD i 0).toNat
/-- The i-th entry of a body. -/
def ent (l : List UInt8) (i : Nat) : Int := bt l (2 * i) * 256 + bt l (2 * i + 1)
def ents (l : List UInt8) (n : Nat) : List Int := (List.range n).map fun i => ent l i
theorem ents_len (l : List UInt8) (n : Nat) : (ents l n).length = n := by simp [ents]
theorem ents_succ (l : List UInt8) (n : Nat) : ents l (n + 1) = ents l n ++ [ent l n] := by simp [ents, List.range_succ]
def mayP (x : Int) : Prop := 2 ≤ x ∧ x < 64
instance (x : Int) : Decidable (mayP x) := inferInstanceAs (Decidable (_ ∧ _))
def mayB (x : Int) : Bool := decide (mayP x)
theorem bt_range (l : List UInt8) (i : Nat) : 0 ≤ bt l i ∧ bt l i ≤ 255 := by
  have := (l.getD i 0).toNat_lt
  unfold bt
  omega
/-- A directory page: its depth's entries. -/
structure IsDir (k d : Int) (l : List UInt8) (n : Nat) : Prop where
  kind : k = 1
  lo : 0 ≤ d
  hi : d ≤ 5
  len : l.length = 240
  size : n = 2 ^ d.toNat
  may : ∀ i, i < n → mayP (ent l i)
  rest : ∀ c ∈ l.drop (2 * n), c = 0
theorem IsDir.le {k d : Int} {l : List UInt8} {n : Nat} (h : IsDir k d l n) : 1 ≤ n ∧ n ≤ 32 := by
  have h1 := h.lo
  have h2 := h.hi
  have h3 := h.size
  obtain ⟨m, rfl⟩ := Int.eq_ofNat_of_zero_le h1
  have : m ≤ 5 := by omega
  match m, this with
  | 0, _ | 1, _ | 2, _ | 3, _ | 4, _ | 5, _ => simp at h3; omega
end Go.Proofs.YtlinolgbpnokcaaGreatDoor.Dr
