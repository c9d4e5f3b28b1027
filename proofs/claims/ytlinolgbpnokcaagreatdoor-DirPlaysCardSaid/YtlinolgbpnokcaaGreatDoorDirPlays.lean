/- The law DirPlays, whatever it is handed. -/
import Derived.Test.YtlinolgbpnokcaaGreatDoorDirPlaysI
namespace Go.Proofs.YtlinolgbpnokcaaGreatDoor.Dr
open Go.RowKit Go.Proofs.YtlinolgbpnokcaaGreatDoor.Mem Go.Proofs.YtlinolgbpnokcaaGreatDoor.Pg Go.Proofs.YtlinolgbpnokcaaGreatDoor.Bk
set_option maxRecDepth 1000000 in
set_option maxHeartbeats 4000000 in
theorem plays_far (n k d x : Int) (bd : List UInt8) (ot : Bool) (A : Option Addr) (len cap : Nat) (w : World) (h : 300 < bd.length ∨ 60 < len) :
    Calls Tryz.prog 3 #[.int .i64 n, .agg #[.int .i64 k, .int .i64 d, .int .i64 x, .string (str bd)], .bool ot, .slice A len cap] w fun e w' => e = .returned (.bool true) ∧ Below w.heap.size w w' := by
  have hbz : (str bd).size = bd.length := str_size bd
  have hal' := fun w => alive_any w
  by_cases h1 : 300 < bd.length
  · have d1 : decide (300 < bd.length) = true := by simpa using h1
    have d1' : decide ((300 : Int) < (bd.length : Int)) = true := by simp; omega
    clear h
    go_enter Tryz.func3, Tryz.ntmps3
    go_wp2_with fail
    with_reducible refine (hal' _).mono ?_
    rintro e w1 ⟨rfl, hb1⟩
    have b1 := below_box hb1
    go_wp2
    go_ret
    exact ⟨rfl, b1⟩
  · have h2 : 60 < len := by omega
    have d1 : decide (300 < bd.length) = false := by simpa using h1
    have d1' : decide ((300 : Int) < (bd.length : Int)) = false := by simp; omega
    have d2 : decide (60 < len) = true := by simpa using h2
    have d2' : decide ((60 : Int) < (len : Int)) = true := by simp; omega
    clear h h1
    go_enter Tryz.func3, Tryz.ntmps3
    go_wp2_with fail
    with_reducible refine (hal' _).mono ?_
    rintro e w1 ⟨rfl, hb1⟩
    have b1 := below_box hb1
    go_wp2
    go_ret
    exact ⟨rfl, b1⟩
theorem plays_any (n k d x : Int) (s : ByteArray) (ot : Bool) (A : Option Addr) (len cap : Nat) (F : Nat → Nat → Int) (w : World) (hops : Ops w A len F) :
    Calls Tryz.prog 3 #[.int .i64 n, .agg #[.int .i64 k, .int .i64 d, .int .i64 x, .string s], .bool ot, .slice A len cap] w fun e w' => e = .returned (.bool true) ∧ Below w.heap.size w w' := by
  rw [str_of s]
  by_cases h : 300 < s.data.toList.length ∨ 60 < len
  · exact plays_far n k d x _ ot A len cap w h
  · by_cases hm : mayP n
    · exact plays_may n k d x _ ot A len cap F w (by omega) (by omega) hops hm
    · by_cases h2 : n < 2
      · exact plays_lo n k d x _ ot A len cap F w (by omega) (by omega) hops hm h2
      · exact plays_hi n k d x _ ot A len cap F w (by omega) (by omega) hops hm (Int.not_lt.1 fun h64 => hm ⟨by omega, h64⟩)
end Go.Proofs.YtlinolgbpnokcaaGreatDoor.Dr
