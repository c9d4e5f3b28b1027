/- The contracts of the book's LentPages and StaysPages. -/
import Derived.Test.YtghbgajapdkofaaGreatDoorBookPgAdd
import Derived.RegionTactic
import Derived.Deep.RegionLaw
import Derived.Deep.AppendLies
namespace Go.Proofs.YtghbgajapdkofaaGreatDoor.Bp
open Go.RowKit Go.Proofs.YtghbgajapdkofaaGreatDoor.Mem Go.Proofs.YtghbgajapdkofaaGreatDoor.Bk

/-- The page that is put behind. -/
def mk77 : P4 := ⟨0, -77, 0, ⟨#[]⟩⟩
set_option maxRecDepth 100000 in
set_option maxHeartbeats 1000000 in
theorem lentPages_any (A : Option Addr) (n c : Nat) (xs : List P4) (w : World) (hxl : n = xs.length) (ha : Rp w A xs) (hn : n ≤ 1000) :
    Calls Tryz.prog 8 #[.slice A n c] w fun e w' => ∃ g cap, e = .returned (.slice (some ⟨g, 0, none⟩) n cap) ∧ n + 1 ≤ cap ∧ w'.ownsRow w.heap.size 26 4 (.slice (some ⟨g, 0, none⟩) (n + 1) cap) (n + 1) (pages (xs ++ [mk77])) ∧ Below w.heap.size w w' := by
  obtain ⟨i0, hif, hz0, hz1, hz2⟩ := info_parts info_page
  have hcp := Lib.hid (fun w h => copyp_any A c xs w h (by omega))
  rw [← hxl] at hcp
  clear hxl
  have hone := pages_one [mk77]
  go_enter Tryz.func8, Tryz.ntmps8
  go_wp2_with fail
  refine (hcp.out _ ha).mono ?_
  rintro e w1 ⟨v, rfl, ro, hb1⟩
  obtain ⟨Av, cv, rfl⟩ := own_slice ro
  have hcn := cells_new w1 w1.heap.size rfl (P4.cells mk77) 26
  go_wp2_with (at_builtin; refine wpList_append_lies _ rfl (.tmp 4) (.tmp 6) _ rfl w.heap.size 26 i0 _ 4 40 Tryz.underlying23 hif hz0 hz1 hz2 rfl (by decide) (.slice Av n cv) n (pages xs) rfl (ro.alloc _) ⟨w1.heap.size, 0, none⟩ 1 1 (pages [mk77]) rfl rfl hcn hone (by omega) (by unfold maxLen; omega) (by omega) (by have := hb1.size; simp; omega) _ rfl ?_; intro g cap w2 ho2 hg2 hat2 hl2; have hcap := (own_cap ho2).2; have hcap2 : n ≤ cap := by omega)
  go_ret
  refine ⟨g, cap, rfl, hcap, by rw [pages_app]; exact ho2, below_grown (below_al hb1 _) (by have := hb1.size; simp; omega) ro hg2⟩

set_option maxRecDepth 100000 in
set_option maxHeartbeats 1000000 in
theorem staysPages_yes (B n g cap c : Nat) (A : Option Addr) (xs : List P4) (w : World) (hxl : n = xs.length) (hr : w.ownsRow B 26 4 (.slice (some ⟨g, 0, none⟩) (n + 1) cap) (n + 1) (pages (xs ++ [mk77]))) (hw : Rp w A xs) (hn : n ≤ 1000) :
    Calls Tryz.prog 16 #[.slice (some ⟨g, 0, none⟩) n cap, .slice A n c] w fun e w' => e = .returned (.bool true) ∧ Below w.heap.size w w' := by
  have hgl := row_lt hr g rfl
  have hat : ∀ i p, (xs ++ [mk77])[i]? = some p → ∀ j, j < 4 → w.cell? ⟨g, i * 4 + j, none⟩ = p.cells[j]? := fun i p hp j hj => by
    have h7 : ∃ u, p.cells[j]? = some u := ⟨_, List.getElem?_eq_getElem (by simpa [P4.cells] using hj)⟩
    obtain ⟨u, hu⟩ := h7
    rw [hu]
    exact own_at hr _ u ((pages_at _ i j p hp hj).trans hu)
  have hr1 : Rp w (some ⟨g, 0, none⟩) xs := ⟨by omega, fun _ => ⟨g, 0, rfl, hgl, fun i p hp j hj => by
    rw [Nat.zero_add]
    refine hat i p ?_ j hj
    rw [List.getElem?_append_left (List.getElem?_eq_some_iff.1 hp).1]
    exact hp⟩⟩
  have hl77 : (xs ++ [mk77])[n]? = some mk77 := by rw [hxl, List.getElem?_append_right (Nat.le_refl _), Nat.sub_self]; rfl
  have h1 : w.cell? ⟨g, n * 4 + 1, none⟩ = some (.int .i64 (-77)) := hat n mk77 hl77 1 (by omega)
  have hcap := (own_cap hr).2
  have hsm := Lib.hid (fun c d w (h : Rp w (some ⟨g, 0, none⟩) xs) (k : Rp w A xs) => samePages_yes (some ⟨g, 0, none⟩) A c d xs w h k)
  rw [← hxl] at hsm
  have i1 : IntKind.i64.wrap ((n : Int) + 1) = ((n + 1 : Nat) : Int) := by rw [IntWalk.i64_in _ (by omega)]; omega
  clear hat hl77 hxl
  go_enter Tryz.func16, Tryz.ntmps16
  go_wp2_with fail
  refine (hsm.out _ _ _ hr1 hw).mono ?_
  rintro e w1 ⟨rfl, hb1⟩
  have h2 := (hb1.cell (p := ⟨g, n * 4 + 1, none⟩) hgl).trans h1
  clear hr hr1 hw h1
  go_wp2_with fail
  go_ret
  exact ⟨rfl, hb1⟩
end Go.Proofs.YtghbgajapdkofaaGreatDoor.Bp
