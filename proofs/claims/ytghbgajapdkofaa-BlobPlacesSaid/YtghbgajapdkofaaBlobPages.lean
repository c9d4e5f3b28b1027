/- The contract of blob.Pages. -/
import Derived.Test.YtghbgajapdkofaaPage
namespace Go.Proofs.Ytghbgajapdkofaa.Bl
open Go.RowKit Go.Proofs.Ytghbgajapdkofaa.Mem Go.Proofs.Ytghbgajapdkofaa.Pg

/-- How many pages a value of n bytes takes. -/
def pgN (n : Nat) : Nat := if n ≤ 40 ∨ 400 < n then 0 else (n + 199) / 200
theorem pgN_le (n : Nat) : pgN n ≤ 2 := by unfold pgN; split <;> omega

theorem blobPages_any (n : Nat) (w : World) (hn : n ≤ 1000000) :
    Calls Try.prog 8 #[.int .i64 n] w fun e w' => e = .returned (.int .i64 (pgN n)) ∧ w' = w := by
  by_cases h1 : n ≤ 40
  · have d1 : decide ((n : Int) ≤ 40) = true := by simp; omega
    go_enter Try.func8, Try.ntmps8
    go_wp2
    go_ret
    exact ⟨by unfold pgN; rw [if_pos (.inl h1)]; rfl, rfl⟩
  · have d1 : decide ((n : Int) ≤ 40) = false := by simp; omega
    by_cases h2 : 400 < n
    · have d2 : decide ((400 : Int) < (n : Int)) = true := by simp; omega
      go_enter Try.func8, Try.ntmps8
      go_wp2
      go_ret
      exact ⟨by unfold pgN; rw [if_pos (.inr h2)]; rfl, rfl⟩
    · have d2 : decide ((400 : Int) < (n : Int)) = false := by simp; omega
      have hd : ((n : Int) + 200 - 1).tdiv 200 = ((pgN n : Nat) : Int) := by
        unfold pgN
        rw [if_neg (by omega), Int.tdiv_eq_ediv_of_nonneg (by omega)]
        omega
      have hd2 : ((n : Int) + 200 - 1) / 200 = ((pgN n : Nat) : Int) := by
        unfold pgN
        rw [if_neg (by omega)]
        omega
      have hd3 : wrap64 ((pgN n : Nat) : Int) = ((pgN n : Nat) : Int) := IntWalk.wrap64_in _ (by have := pgN_le n; omega)
      go_enter Try.func8, Try.ntmps8
      go_wp2
      go_ret
      exact ⟨rfl, rfl⟩
end Go.Proofs.Ytghbgajapdkofaa.Bl
