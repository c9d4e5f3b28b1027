/- The contracts of the book's LentInts and StaysInts. -/
import Derived.Test.YtghbgajapdkofaaGreatDoorBookMark
import Derived.Test.YtghbgajapdkofaaGreatDoorSameInts
import Derived.RegionTactic
import Derived.Deep.RegionLaw
import Derived.Deep.AppendLies
namespace Go.Proofs.YtghbgajapdkofaaGreatDoor.Bk
open Go.RowKit Go.Proofs.YtghbgajapdkofaaGreatDoor.Mem

set_option maxRecDepth 100000 in
set_option maxHeartbeats 1000000 in
theorem lentInts_any (A : Option Addr) (n c : Nat) (xs : List Int) (w : World) (ha : Ints w A n xs) (hn : n ≤ 1000) :
    Calls Tryz.prog 5 #[.slice A n c] w fun e w' => ∃ g cap, e = .returned (.slice (some ⟨g, 0, none⟩) n cap) ∧ n + 1 ≤ cap ∧ w'.ownsRow w.heap.size 3 1 (.slice (some ⟨g, 0, none⟩) (n + 1) cap) (n + 1) (ints (xs ++ [-77])) ∧ Below w.heap.size w w' := by
  obtain ⟨i0, hif, hz0, hz1, hz2⟩ := info_parts info_int
  have hcp := Lib.hid (fun w h => copy_any A n c xs w h (by omega))
  go_enter Tryz.func5, Tryz.ntmps5
  go_wp2_with fail
  refine (hcp.out _ ha).mono ?_
  rintro e w1 ⟨v, rfl, ro, hb1⟩
  obtain ⟨Av, cv, rfl⟩ := own_slice ro
  go_wp2_with (at_builtin; refine wpList_append_lies _ rfl (.tmp 4) (.tmp 5) _ rfl w.heap.size 3 i0 (.int .i64 0) 1 8 Tryz.underlying22 hif hz0 hz1 hz2 rfl (by decide) (.slice Av n cv) n (ints xs) rfl (ro.alloc _) ⟨w1.heap.size, 0, none⟩ 1 1 [.int .i64 (-77)] rfl rfl (cells_one _ _ _) (by intro u hu; simp at hu; subst hu; rfl) (by omega) (by unfold maxLen; omega) (by omega) (by have := hb1.size; simp; omega) _ rfl ?_; intro g cap w2 ho2 hg2 hat2 hl2; have hcap := (own_cap ho2).2; have hcap2 : n ≤ cap := by omega)
  go_ret
  refine ⟨g, cap, rfl, hcap, by rw [ints_app]; exact ho2, below_grown (below_al hb1 _) (by have := hb1.size; simp; omega) ro hg2⟩

set_option maxRecDepth 100000 in
set_option maxHeartbeats 1000000 in
theorem staysInts_yes (B n g cap c : Nat) (A : Option Addr) (xs : List Int) (w : World) (hr : w.ownsRow B 3 1 (.slice (some ⟨g, 0, none⟩) (n + 1) cap) (n + 1) (ints (xs ++ [-77]))) (hw : Ints w A n xs) (hn : n ≤ 1000) :
    Calls Tryz.prog 15 #[.slice (some ⟨g, 0, none⟩) n cap, .slice A n c] w fun e w' => e = .returned (.bool true) ∧ Below w.heap.size w w' := by
  have hxl := hw.1
  have hr1 : Ints w (some ⟨g, 0, none⟩) n xs := ⟨hxl, by omega, fun _ => ⟨g, 0, rfl, row_lt hr g rfl, fun j hj => by
    rw [Nat.zero_add]
    refine own_at hr j _ ?_
    rw [ints_app, List.getElem?_append_left (by rw [ints_length]; omega)]
    simp [ints, List.getElem?_eq_getElem (show j < xs.length by omega), List.getD_eq_getElem?_getD]⟩⟩
  have hrn : w.cell? ⟨g, n, none⟩ = some (.int .i64 (-77)) := own_at hr n _ (by rw [ints_app, List.getElem?_append_right (by rw [ints_length]; omega), ints_length, hxl, Nat.sub_self]; rfl)
  have hgl := row_lt hr g rfl
  have hcap := (own_cap hr).2
  have i1 : IntKind.i64.wrap ((n : Int) + 1) = ((n + 1 : Nat) : Int) := by rw [IntWalk.i64_in _ (by omega)]; omega
  go_enter Tryz.func15, Tryz.ntmps15
  go_wp2_with fail
  refine (sameInts_any _ _ _ _ _ _ _ _ _ hr1 hw).mono ?_
  rintro e w1 ⟨rfl, hb1⟩
  rw [decide_eq_true rfl]
  have hrn1 := (hb1.cell (p := ⟨g, n, none⟩) hgl).trans hrn
  clear hr hr1 hw hrn
  go_wp2_with fail
  go_ret
  exact ⟨rfl, hb1⟩
end Go.Proofs.YtghbgajapdkofaaGreatDoor.Bk
