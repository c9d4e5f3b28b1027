/- Contracts of package page's zeros and Empty, and small lemmas on strings as lists of bytes. -/
import Derived.Test.YtibbmmkjienekaaDoorShelf
import Derived.Test.YtibbmmkjienekaaDoorMem
import Derived.KernelRfl
import Derived.Outline
import Derived.Lib.Repeat
import Derived.RegionTactic
import Derived.ChangeAlike
namespace Go.Proofs.YtibbmmkjienekaaDoor.Pg
open Go.RowKit Go.Proofs.YtibbmmkjienekaaDoor.Mem

/-- A string of these bytes. -/
abbrev str (l : List UInt8) : ByteArray := ⟨l.toArray⟩
theorem str_size (l : List UInt8) : (str l).size = l.length := by simp [ByteArray.size]
theorem str_of (s : ByteArray) : s = str s.data.toList := by cases s; rfl
theorem repeat_one (c : UInt8) (n : Nat) : Lib.repeatL [c] n = List.replicate n c := by
  induction n with
  | zero => rfl
  | succ n ih => rw [Lib.repeatL, ih]; rfl

def zs (n : Nat) : List UInt8 := List.replicate n 0

theorem zeros_any (n : Nat) (w : World) (hn : n ≤ 100000) :
    Calls Tryd.prog 37 #[.int .i64 n] w fun e w' => e = .returned (.string (str (zs n))) ∧ Below w.heap.size w w' := by
  go_enter Tryd.func37, Tryd.ntmps37
  go_wp2_with (go_at_call 46; refine (Tryd.strings_Repeat ⟨#[0]⟩ n _ (by omega) (by show 1 * n ≤ _; omega)).mono ?_; rintro e w' ⟨rfl, hb⟩)
  go_ret
  refine ⟨?_, hb⟩
  rw [zs, ← repeat_one]
  rfl

theorem empty_any (k d : Int) (w : World) :
    Calls Tryd.prog 34 #[.int .i64 k, .int .i64 d] w fun e w' => e = .returned (.agg #[.int .i64 k, .int .i64 d, .int .i64 0, .string (str (zs 240))]) ∧ Below w.heap.size w w' := by
  go_enter Tryd.func34, Tryd.ntmps34
  have hz := fun w => zeros_any 240 w (by omega)
  go_wp2_with fail
  refine (hz _).mono ?_
  rintro e w1 ⟨rfl, hb1⟩
  have hblk := blk_below hb1
  have hc := blk_cell hblk
  have hf := blk_free hblk
  have hsz := lt_of_block hblk
  have hbw := below_tr (below_al (Below.refl _ w) _) hb1
  clear hb1 hz
  go_wp2
  refine bodyPost_ret (v := .agg #[.int .i64 k, .int .i64 d, .int .i64 0, .string (str (zs 240))]) (by simp [results, Tryd.results34, go_sem, hc]) rfl ⟨rfl, ?_⟩
  exact below_set (below_set (below_set (below_set hbw (Nat.le_refl _)) (Nat.le_refl _)) (Nat.le_refl _)) (Nat.le_refl _)
end Go.Proofs.YtibbmmkjienekaaDoor.Pg
