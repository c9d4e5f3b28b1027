/- The contract of undo.Next. -/
import Derived.Test.YtlhmjmldndoekaaUndoSteps
namespace Go.Proofs.Ytlhmjmldndoekaa.Undo
open Go.RowKit Go.Proofs.Ytlhmjmldndoekaa.Mem

/-- The first of what is to be undone; 0. -/
def headOf : Option (List Int) → Int
  | some (x :: _) => x
  | _ => 0

set_option maxRecDepth 100000 in
set_option maxHeartbeats 1000000 in
theorem next_any (p : Addr) (len : Nat) (K P N : Nat → Int) (last : Int) (w : World) (hlog : IsLog w p len K P N) (hl : len ≤ 1000000) :
    Calls Try.prog 11 #[.func (.func 9) #[.pointer (some p)] #[], .int .i64 last] w fun e w' =>
      e = .returned (.tuple #[.int .i64 (headOf (all (nxt len K P N) 0 last)), .bool (all (nxt len K P N) 0 last).isSome]) ∧ Below w.heap.size w w' := by
  have hs := steps_any p len K P N last 0 w hlog hl
  rw [show max (0 : Int) 0 = 0 from rfl] at hs
  cases hr : all (nxt len K P N) 0 last with
  | none =>
    rw [hr] at hs
    go_enter Try.func11, Try.ntmps11
    go_wp2_with (go_at_call 8; refine hs.mono ?_; rintro e w1 ⟨hb, _, rfl⟩)
    go_ret2
    exact ⟨rfl, hb⟩
  | some l =>
    rw [hr] at hs
    cases l with
    | nil =>
      go_enter Try.func11, Try.ntmps11
      go_wp2_with (go_at_call 8; refine hs.mono ?_; rintro e w1 ⟨hb, _, v, rfl, hown⟩; obtain ⟨A, c, rfl, hi⟩ := ints_of_own hown)
      go_ret2
      exact ⟨rfl, hb⟩
    | cons x l =>
      go_enter Try.func11, Try.ntmps11
      go_wp2_with (go_at_call 8; refine hs.mono ?_; rintro e w1 ⟨hb, _, v, rfl, hown⟩; obtain ⟨A, c, rfl, hi⟩ := ints_of_own hown; obtain ⟨b, off, rfl, _, hc⟩ := hi.2.2 (by simp); have hc0 := hc 0 (by simp); simp at hc0)
      go_ret2
      exact ⟨rfl, hb⟩
end Go.Proofs.Ytlhmjmldndoekaa.Undo
