/- The contracts of the book's markInts and copyInts. -/
import Derived.Test.YtlinolgbpnokcaaGreatDoorBookPure
import Derived.Deep.QuietTactic
import Derived.BigQuiet
import Derived.Outline
namespace Go.Proofs.YtlinolgbpnokcaaGreatDoor.Bk
open Go.RowKit Go.Proofs.YtlinolgbpnokcaaGreatDoor.Mem

theorem info_int : (Tryz.prog.info? 3).map (fun i => (i.zero, i.size, i.bytes)) = some (some (.int .i64 0), 1, 8) := by kernel_rfl

set_option maxRecDepth 100000 in
set_option maxHeartbeats 1000000 in
theorem mark_any (i f n : Nat) (w : World) (hi : i ≤ 100000) (hf : f + n ≤ 10000000) :
    Calls Tryz.prog 77 #[.int .i64 i, .int .i64 f, .int .i64 n] w fun e w' => ∃ v, e = .returned v ∧ w'.ownsRow w.heap.size 3 1 v n (ints (mks i f n)) ∧ Below w.heap.size w w' := by
  obtain ⟨i0, hif, hz0, hz1, hz2⟩ := info_parts info_int
  have i1 : IntKind.i64.wrap ((f : Int) + n) = ((f + n : Nat) : Int) := by rw [IntWalk.i64_in _ (by omega)]; omega
  have i2 : IntKind.i64.wrap (-1000000 * (i : Int)) = -1000000 * (i : Int) := IntWalk.i64_in _ (by omega)
  go_enter Tryz.func77, Tryz.ntmps77
  go_wp2
  go_loopw [7, 8] (fun v i' wr => ∃ j : Nat, i' = .int .i64 ((f + j : Nat) : Int) ∧ j ≤ n ∧ wr.ownsRow w.heap.size 3 1 v j (ints (mks i f j)) ∧ Below w.heap.size w wr) (fun _ i' _ => f + n - (intOf i').toNat)
  case atStart => exact ⟨0, rfl, by omega, World.ownsRow_nil _ _ _ _, Below.refl _ _⟩
  case round =>
    obtain ⟨j, rfl, hj, hown, hbel⟩ := hrel
    have hb0 := hbel.size
    by_cases hlt : j < n
    · obtain ⟨y, hy⟩ : ∃ y, y = -1000000 * (i : Int) - ((f + j : Nat) : Int) - 7 := ⟨_, rfl⟩
      have i3 : IntKind.i64.wrap (-1000000 * (i : Int) - ((f + j : Nat) : Int)) = -1000000 * (i : Int) - ((f + j : Nat) : Int) := IntWalk.i64_in _ (by omega)
      have i4 : IntKind.i64.wrap (-1000000 * (i : Int) - ((f + j : Nat) : Int) - 7) = y := by rw [hy]; exact IntWalk.i64_in _ (by omega)
      have i5 : IntKind.i64.wrap (((f + j : Nat) : Int) + 1) = ((f + j : Nat) : Int) + 1 := IntWalk.i64_in _ (by omega)
      have i6 : (((f + j : Nat) : Int) < ((f + n : Nat) : Int)) := by omega
      have Hy := Lib.hid hy
      clear hy
      generalize hF : ((f + j : Nat) : Int) = J at *
      go_wp2_with (at_builtin; refine wpList_append_own _ rfl (.tmp 17) (.tmp 23) _ rfl w.heap.size 3 i0 (.int .i64 0) 1 8 Tryz.underlying29 hif hz0 hz1 hz2 rfl (by decide) _ j (ints (mks i f j)) rfl (hown.alloc _) ⟨wr.heap.size, 0, none⟩ 1 1 [.int .i64 y] rfl rfl (cells_one _ _ _) (by intro u hu; simp at hu; subst hu; rfl) (by unfold maxLen; omega) (by omega) (by simp; omega) ?_; intro v' w3 hown' hgrow _)
      case roundEnd =>
        refine ⟨⟨j + 1, by rw [← hF]; simp; omega, by omega, ?_, below_grown (below_al hbel _) (by simp; omega) hown hgrow⟩, by simp only [intOf]; omega⟩
        rw [mks_succ, ints_app]
        have := Hy.out
        rw [hF, ← this]
        exact hown'
    · obtain rfl : j = n := by omega
      go_wp2
      go_ret
      exact ⟨_, rfl, hown, hbel⟩

set_option maxRecDepth 100000 in
set_option maxHeartbeats 1000000 in
theorem copy_any (A : Option Addr) (n c : Nat) (xs : List Int) (w : World) (ha : Ints w A n xs) (hn : n ≤ 1000000) :
    Calls Tryz.prog 27 #[.slice A n c] w fun e w' => ∃ v, e = .returned v ∧ w'.ownsRow w.heap.size 3 1 v n (ints xs) ∧ Below w.heap.size w w' := by
  obtain ⟨i0, hif, hz0, hz1, hz2⟩ := info_parts info_int
  have hxl := ha.1
  cases A with
  | none =>
    obtain rfl : n = 0 := by
      rcases Nat.eq_zero_or_pos n with h | h
      · exact h
      · obtain ⟨b, off, hA, _⟩ := ha.2.2 h
        cases hA
    obtain rfl : xs = [] := List.eq_nil_of_length_eq_zero hxl
    go_enter Tryz.func27, Tryz.ntmps27
    go_wp2
    go_ret
    exact ⟨_, rfl, World.ownsRow_nil _ _ _ _, Below.refl _ _⟩
  | some a =>
    have hnews : ∀ j u, (ints xs)[j]? = some u → w.cell? (a.add j) = some u := by
      intro j u hu
      have hjn : j < n := by have := (List.getElem?_eq_some_iff.1 hu).1; rw [ints_length] at this; omega
      obtain ⟨b, off, hA, _, hc⟩ := ha.2.2 (by omega)
      injection hA with hA
      subst hA
      rw [Go.WideShapes.add_plain, hc j hjn]
      rw [← hu]
      simp [ints, List.getElem?_eq_getElem (show j < xs.length by omega), List.getD_eq_getElem?_getD]
    go_enter Tryz.func27, Tryz.ntmps27
    go_wp2_with (at_builtin; refine wpList_append_own _ rfl (.const (.slice none 0 0)) (.tmp 3) _ rfl w.heap.size 3 i0 (.int .i64 0) 1 8 Tryz.underlying29 hif hz0 hz1 hz2 rfl (by decide) _ 0 [] rfl (World.ownsRow_nil _ _ _ _) a n c (ints xs) rfl (by rw [ints_length, hxl]; omega) hnews (by intro u hu; simp [ints] at hu; obtain ⟨z, _, rfl⟩ := hu; rfl) (by unfold maxLen; omega) (by omega) (Nat.le_refl _) ?_; intro v' w3 hown' hgrow _)
    go_ret
    rw [Nat.zero_add, List.nil_append] at hown'
    exact ⟨_, rfl, hown', below_grown (Below.refl _ w) (Nat.le_refl _) (World.ownsRow_nil w w.heap.size 3 1) hgrow⟩
end Go.Proofs.YtlinolgbpnokcaaGreatDoor.Bk
