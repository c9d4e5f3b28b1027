/- The contract of the reference's BlobPages. -/
import Derived.Test.YtghbgajapdkofaaGreatDoorBlobPages
namespace Go.Proofs.YtghbgajapdkofaaGreatDoor.Bl
open Go.RowKit Go.Proofs.YtghbgajapdkofaaGreatDoor.Mem Go.Proofs.YtghbgajapdkofaaGreatDoor.Pg

theorem refPages_any (n : Nat) (w : World) (hn : n ≤ 1000000) :
    Calls Tryz.prog 14 #[.int .i64 n] w fun e w' => e = .returned (.int .i64 (pgN n)) ∧ w' = w := by
  by_cases h1 : n ≤ 40
  · have d1 : decide ((n : Int) ≤ 40) = true := by simp; omega
    go_enter Tryz.func14, Tryz.ntmps14
    go_wp2
    go_ret
    exact ⟨by unfold pgN; rw [if_pos (.inl h1)]; rfl, rfl⟩
  · have d1 : decide ((n : Int) ≤ 40) = false := by simp; omega
    by_cases h2 : 400 < n
    · have d2 : decide ((400 : Int) < (n : Int)) = true := by simp; omega
      go_enter Tryz.func14, Tryz.ntmps14
      go_wp2
      go_ret
      exact ⟨by unfold pgN; rw [if_pos (.inr h2)]; rfl, rfl⟩
    · have d2 : decide ((400 : Int) < (n : Int)) = false := by simp; omega
      have hd : ((n : Int) + 200 - 1).tdiv 200 = ((pgN n : Nat) : Int) := by
        unfold pgN
        rw [if_neg (by omega), Int.tdiv_eq_ediv_of_nonneg (by omega)]
        omega
      have hd2 : ((n : Int) + 200 - 1) / 200 = ((pgN n : Nat) : Int) := by
        unfold pgN
        rw [if_neg (by omega)]
        omega
      have hd3 : wrap64 ((pgN n : Nat) : Int) = ((pgN n : Nat) : Int) := IntWalk.wrap64_in _ (by have := pgN_le n; omega)
      go_enter Tryz.func14, Tryz.ntmps14
      go_wp2
      go_ret
      exact ⟨by first | rfl | (rw [h0]; rfl), rfl⟩
theorem refPagesI_any (z : Int) (w : World) : Calls Tryz.prog 14 #[.int .i64 z] w fun e w' => e = .returned (.int .i64 (pgI z)) ∧ w' = w := by
  by_cases h1 : z ≤ 40
  · have h0 : pgI z = 0 := by unfold pgI; rw [if_pos (.inl h1)]
    go_enter Tryz.func14, Tryz.ntmps14
    go_wp2
    go_ret
    exact ⟨by first | rfl | (rw [h0]; rfl), rfl⟩
  · by_cases h2 : 400 < z
    · have h0 : pgI z = 0 := by unfold pgI; rw [if_pos (.inr h2)]
      go_enter Tryz.func14, Tryz.ntmps14
      go_wp2
      go_ret
      exact ⟨by first | rfl | (rw [h0]; rfl), rfl⟩
    · obtain ⟨n, rfl⟩ := Int.eq_ofNat_of_zero_le (show 0 ≤ z from by omega)
      rw [show ((pgI (n : Int) : Nat) : Int) = (pgN n : Int) by rw [pgI_nat]]
      exact refPages_any n w (by omega)
end Go.Proofs.YtghbgajapdkofaaGreatDoor.Bl
