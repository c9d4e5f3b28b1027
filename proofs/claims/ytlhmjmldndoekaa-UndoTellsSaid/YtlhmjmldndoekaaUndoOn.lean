/- The contract of undo's 'on': where one goes on behind a record. -/
import Derived.Test.YtlhmjmldndoekaaProg
import Derived.Test.YtlhmjmldndoekaaUndoPure
import Derived.WalkKit
import Derived.KernelRfl
import Derived.Outline
namespace Go.Proofs.Ytlhmjmldndoekaa.Undo
open Go.RowKit

theorem on_any (k tx p n : Int) (c4 c5 c6 c7 c8 c9 c10 c11 c12 c13 : Value) (w : World) :
    Calls Try.prog 15 #[.agg #[.int .i64 k, .int .i64 tx, .int .i64 p, .int .i64 n, c4, c5, c6, c7, c8, c9, c10, c11, c12, c13]] w fun e w' =>
      e = .returned (.tuple #[.int .i64 (onF k p n).1, .bool (onF k p n).2.1, .bool (onF k p n).2.2]) ∧ Below w.heap.size w w' := by
  by_cases h1 : k = 1
  · subst h1
    go_enter Try.func15, Try.ntmps15
    go_wp2
    go_ret3
    exact ⟨by simp [onF], (Below.refl _ _).alloc (Nat.le_refl _) _⟩
  · have e1 : (k == 1) = false := by simpa using h1
    by_cases h2 : k = 2
    · subst h2
      go_enter Try.func15, Try.ntmps15
      go_wp2
      go_ret3
      exact ⟨by simp [onF], (Below.refl _ _).alloc (Nat.le_refl _) _⟩
    · have e2 : (k == 2) = false := by simpa using h2
      by_cases h6 : k = 6
      · subst h6
        go_enter Try.func15, Try.ntmps15
        go_wp2
        go_ret3
        exact ⟨by simp [onF], (Below.refl _ _).alloc (Nat.le_refl _) _⟩
      · have e6 : (k == 6) = false := by simpa using h6
        by_cases h4 : k = 4
        · subst h4
          go_enter Try.func15, Try.ntmps15
          go_wp2
          go_ret3
          exact ⟨by simp [onF], (Below.refl _ _).alloc (Nat.le_refl _) _⟩
        · have e4 : (k == 4) = false := by simpa using h4
          go_enter Try.func15, Try.ntmps15
          go_wp2
          go_ret3
          exact ⟨by simp [onF, h1, h2, h6, h4], (Below.refl _ _).alloc (Nat.le_refl _) _⟩
end Go.Proofs.Ytlhmjmldndoekaa.Undo
