/- The contract of dir's of, at every page. -/
import Derived.Test.YtlinolgbpnokcaaGreatDoorDirOf
namespace Go.Proofs.YtlinolgbpnokcaaGreatDoor.Dr
open Go.RowKit Go.Proofs.YtlinolgbpnokcaaGreatDoor.Mem Go.Proofs.YtlinolgbpnokcaaGreatDoor.Pg

theorem wrap_small (z : Int) (h : 0 ≤ z ∧ z ≤ 1000) : wrap64 z = z ∧ IntKind.i64.wrap z = z := ⟨IntWalk.wrap64_in _ (by omega), IntWalk.i64_in _ (by omega)⟩
theorem pow_small (m : Nat) (h : m ≤ 5) : (2 : Int) ^ ((m : Int).toNat) = ((2 ^ m : Nat) : Int) ∧ 1 ≤ 2 ^ m ∧ 2 ^ m ≤ 32 := by
  rw [Int.toNat_natCast]
  match m, h with
  | 0, _ | 1, _ | 2, _ | 3, _ | 4, _ | 5, _ => simp
theorem of_any (k d x : Int) (l : List UInt8) (w : World) :
    Calls Tryz.prog 23 #[.agg #[.int .i64 k, .int .i64 d, .int .i64 x, .string (str l)]] w (OfPost w k d l) := by
  by_cases h : k = 1 ∧ 0 ≤ d ∧ d ≤ 5 ∧ l.length = 240
  · obtain ⟨rfl, h0, h5, hl240⟩ := h
    obtain ⟨m, rfl⟩ := Int.eq_ofNat_of_zero_le h0
    obtain ⟨e, h1, h2⟩ := pow_small m (by omega)
    refine of_body m x l (2 ^ m) w h0 h5 hl240 (by rw [Int.toNat_natCast]) h1 h2 ?_ ?_ ?_
    · rw [e]; exact (wrap_small _ (by omega)).1
    · rw [e]
      generalize 2 ^ m = q at *
      rw [(wrap_small _ (by omega)).1]
      omega
    · rw [e]
      generalize 2 ^ m = q at *
      rw [(wrap_small _ (by omega)).2]
      omega
  · exact of_head k d x l w (by omega)
end Go.Proofs.YtlinolgbpnokcaaGreatDoor.Dr
