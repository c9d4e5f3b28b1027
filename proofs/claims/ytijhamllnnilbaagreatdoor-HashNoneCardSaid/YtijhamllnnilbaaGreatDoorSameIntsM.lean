/- The contract of the book's SameInts. -/
import Derived.Test.YtijhamllnnilbaaGreatDoorProg
import Derived.Test.YtijhamllnnilbaaGreatDoorM01
import Derived.KernelRfl
import Derived.Deep.QuietTactic
import Derived.BigQuiet
import Derived.Outline
namespace Go.Proofs.YtijhamllnnilbaaGreatDoor.Mem
open Go.RowKit

theorem eq_of_getD {xs ys : List Int} {n : Nat} (hx : xs.length = n) (hy : ys.length = n) (h : ∀ j, j < n → xs.getD j 0 = ys.getD j 0) : xs = ys := by
  refine List.ext_getElem (by omega) fun j h1 h2 => ?_
  have := h j (by omega)
  simpa [List.getD_eq_getElem?_getD, List.getElem?_eq_getElem h1, List.getElem?_eq_getElem h2] using this

/-- The same up to k. -/
def SameTo (xs ys : List Int) (k : Nat) : Prop := ∀ j, j < k → xs.getD j 0 = ys.getD j 0
theorem SameTo.succ {xs ys : List Int} {k : Nat} (h : SameTo xs ys k) (he : xs.getD k 0 = ys.getD k 0) : SameTo xs ys (k + 1) := fun j hj => by
  rcases Nat.lt_or_ge j k with h1 | h1
  · exact h j h1
  · obtain rfl : j = k := by omega
    exact he

set_option maxRecDepth 100000 in
set_option maxHeartbeats 1000000 in
theorem sameInts_any (A B : Option Addr) (n m c d : Nat) (xs ys : List Int) (w : World) (ha : Ints w A n xs) (hb : Ints w B m ys) :
    Calls Tryz.prog 33 #[.slice A n c, .slice B m d] w fun e w' => e = .returned (.bool (decide (xs = ys))) ∧ Below w.heap.size w w' := by
  have hn := ha.2.1
  by_cases hnm : n = m
  · subst hnm
    go_enter Tryz.func33, Tryz.ntmps33
    go_wp2
    go_loopw [5] (fun i wr => ∃ k : Nat, i = .int .i64 k ∧ k ≤ n ∧ SameTo xs ys k ∧ Below w.heap.size w wr) (fun i _ => n - (intOf i).toNat)
    case atStart => exact ⟨0, rfl, Nat.zero_le _, fun j hj => absurd hj (by omega), Below.refl _ _⟩
    case round =>
      obtain ⟨k, rfl, hk, htk, hbel⟩ := hrel
      by_cases hlt : k < n
      · obtain ⟨b, off, rfl, _, hca⟩ := (ha.below hbel).2.2 (by omega)
        obtain ⟨b', off', rfl, _, hcb⟩ := (hb.below hbel).2.2 (by omega)
        have g1 := hca k hlt
        have g2 := hcb k hlt
        obtain ⟨x, hx⟩ : ∃ x, x = xs.getD k 0 := ⟨_, rfl⟩
        obtain ⟨y, hy⟩ : ∃ y, y = ys.getD k 0 := ⟨_, rfl⟩
        rw [← hx] at g1
        rw [← hy] at g2
        have Hx := Lib.hid hx
        have Hy := Lib.hid hy
        clear hx hy hca hcb
        by_cases he : x = y
        · subst he
          go_wp2
          go_quiet (fail)
          go_wp2
          go_roundw
          case rel => exact ⟨k + 1, by go_num, by omega, htk.succ (Hx.out ▸ Hy.out), below_drN hbel _⟩
          case measure => simp [intOf]; omega
        · have he' : (x == y) = false := by simpa using he
          go_wp2
          go_quiet (fail)
          go_wp2
          go_ret
          have hne : xs ≠ ys := by
            rintro rfl
            exact he (Hx.out.trans Hy.out.symm)
          exact ⟨by simp [hne], below_drN hbel _⟩
      · obtain rfl : k = n := by omega
        go_wp2
        go_ret
        have he := eq_of_getD ha.1 hb.1 htk
        exact ⟨by simp [he], hbel⟩
  · have hnm' : ((n : Int) != (m : Int)) = true := by simp; omega
    go_enter Tryz.func33, Tryz.ntmps33
    go_wp2
    go_ret
    have hne : xs ≠ ys := by
      rintro rfl
      exact hnm (ha.1.symm.trans hb.1)
    exact ⟨by simp [hne], Below.refl _ _⟩
end Go.Proofs.YtijhamllnnilbaaGreatDoor.Mem
