/- The contract of dir's may. -/
import Derived.Test.YtlinolgbpnokcaaGreatDoorDirPure
namespace Go.Proofs.YtlinolgbpnokcaaGreatDoor.Dr
open Go.RowKit Go.Proofs.YtlinolgbpnokcaaGreatDoor.Mem Go.Proofs.YtlinolgbpnokcaaGreatDoor.Pg

theorem may_any (x : Int) (w : World) : Calls Tryz.prog 17 #[.int .i64 x] w fun e w' => e = .returned (.bool (mayB x)) ∧ w' = w := by
  by_cases h1 : 2 ≤ x
  · by_cases h2 : x < 64
    · have hb : mayB x = true := decide_eq_true ⟨h1, h2⟩
      go_enter Tryz.func17, Tryz.ntmps17
      go_wp2
      go_ret
      exact ⟨by first | rfl | (rw [hb]; rfl), rfl⟩
    · have hb : mayB x = false := decide_eq_false (fun h => h2 h.2)
      go_enter Tryz.func17, Tryz.ntmps17
      go_wp2
      go_ret
      exact ⟨by first | rfl | (rw [hb]; rfl), rfl⟩
  · have hb : mayB x = false := decide_eq_false (fun h => h1 h.1)
    go_enter Tryz.func17, Tryz.ntmps17
    go_wp2
    go_ret
    exact ⟨by first | rfl | (rw [hb]; rfl), rfl⟩
end Go.Proofs.YtlinolgbpnokcaaGreatDoor.Dr
