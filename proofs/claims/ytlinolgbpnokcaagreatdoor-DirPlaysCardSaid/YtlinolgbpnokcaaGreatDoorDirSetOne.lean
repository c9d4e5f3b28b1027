/- The contract of the entries' set. -/
import Derived.Test.YtlinolgbpnokcaaGreatDoorDirHalve
namespace Go.Proofs.YtlinolgbpnokcaaGreatDoor.Dr
open Go.RowKit Go.Proofs.YtlinolgbpnokcaaGreatDoor.Mem Go.Proofs.YtlinolgbpnokcaaGreatDoor.Pg

set_option maxRecDepth 100000 in
set_option maxHeartbeats 4000000 in
theorem setOne_any (eb g n cap i : Nat) (v u : Int) (w : World) (h0 : w.cell? ⟨eb, 0, none⟩ = some (.slice (some ⟨g, 0, none⟩) n cap)) (h1 : w.cell? ⟨eb, 1, none⟩ = some (.int .i64 v)) (hi : i < n) (hn : n ≤ 1000)
    (hc : w.cell? ⟨g, i, none⟩ = some (.int .i64 u)) (hf : w.frozen? ⟨g, i, none⟩ = false) (hne : g ≠ eb) :
    Calls Tryz.prog 26 #[.pointer (some ⟨eb, 0, none⟩), .int .i64 i] w fun e w' => e = .returned (.tuple #[]) ∧ w' = (w.setCell ⟨g, i, none⟩ (.int .i64 v)).drew := by
  have i1 : (i : Int) < (n : Int) := by omega
  go_enter Tryz.func26, Tryz.ntmps26
  go_wp2_with fail
  refine wp_region_held_drew (S := fun w' => w'.cell? ⟨eb, 0, none⟩ = some (.slice (some ⟨g, 0, none⟩) n cap) ∧ w'.cell? ⟨eb, 1, none⟩ = some (.int .i64 v)) (by kernel_rfl) (⟨h0, h1⟩) (fun hHeld => ?_)
  refine wpAnyH_take (i := 0) (v := ?_) rfl (by kernel_rfl) (by kernel_rfl) (by kernel_rfl) (fun _ _ _ h => h) (Or.inl ⟨by rfl, ?_⟩) hHeld ?_
  rotate_left
  · intro wq hSw
    try dsimp only at hSw
    go_simp
    try rw [if_neg (by omega)]
    try rw [if_pos (by omega)]
    try with_reducible rfl
  try simp only [Act.put, List.setIfInBounds_toArray, List.set_cons_zero, List.set_cons_succ]
  refine wpAnyH_take (i := 1) (v := ?_) rfl (by kernel_rfl) (by kernel_rfl) (by kernel_rfl) (fun _ _ _ h => h) (Or.inl ⟨by rfl, ?_⟩) hHeld ?_
  rotate_left
  · intro wq hSw
    try dsimp only at hSw
    go_simp
    try rw [if_neg (by omega)]
    try rw [if_pos (by omega)]
    try with_reducible rfl
  try simp only [Act.put, List.setIfInBounds_toArray, List.set_cons_zero, List.set_cons_succ]
  refine wpAnyH_take (i := 2) (v := ?_) rfl (by kernel_rfl) (by kernel_rfl) (by kernel_rfl) (fun _ _ _ h => h) (Or.inl ⟨by rfl, ?_⟩) hHeld ?_
  rotate_left
  · intro wq hSw
    try dsimp only at hSw
    go_simp
    try rw [if_neg (by omega)]
    try rw [if_pos (by omega)]
    try with_reducible rfl
  try simp only [Act.put, List.setIfInBounds_toArray, List.set_cons_zero, List.set_cons_succ]
  refine wpAnyH_take (i := 3) (v := ?_) rfl (by kernel_rfl) (by kernel_rfl) (by kernel_rfl) (fun _ _ _ h => h) (Or.inl ⟨by rfl, ?_⟩) hHeld ?_
  rotate_left
  · intro wq hSw
    try dsimp only at hSw
    go_simp
    try rw [if_neg (by omega)]
    try rw [if_pos (by omega)]
    try with_reducible rfl
  try simp only [Act.put, List.setIfInBounds_toArray, List.set_cons_zero, List.set_cons_succ]
  refine wpAnyH_take (i := 4) (v := ?_) rfl (by kernel_rfl) (by kernel_rfl) (by kernel_rfl) (fun _ _ _ h => h) (Or.inl ⟨by rfl, ?_⟩) hHeld ?_
  rotate_left
  · intro wq hSw
    try dsimp only at hSw
    go_simp
    try rw [if_neg (by omega)]
    try rw [if_pos (by omega)]
    try with_reducible rfl
  try simp only [Act.put, List.setIfInBounds_toArray, List.set_cons_zero, List.set_cons_succ]
  refine wpAnyH_take (i := 5) (v := ?_) rfl (by kernel_rfl) (by kernel_rfl) (by kernel_rfl) (fun _ _ _ h => h) (Or.inl ⟨by rfl, ?_⟩) hHeld ?_
  rotate_left
  · intro wq hSw
    try dsimp only at hSw
    go_simp
    try rw [if_neg (by omega)]
    try rw [if_pos (by omega)]
    try with_reducible rfl
  try simp only [Act.put, List.setIfInBounds_toArray, List.set_cons_zero, List.set_cons_succ]
  refine wpAnyH_take (i := 6) (v := ?_) rfl (by kernel_rfl) (by kernel_rfl) (by kernel_rfl) (fun _ _ _ h => h) (Or.inl ⟨by rfl, ?_⟩) hHeld ?_
  rotate_left
  · intro wq hSw
    try dsimp only at hSw
    go_simp
    try rw [if_neg (by omega)]
    try rw [if_pos (by omega)]
    try with_reducible rfl
  try simp only [Act.put, List.setIfInBounds_toArray, List.set_cons_zero, List.set_cons_succ]
  refine wpAnyH_take (i := 7) (v := ?_) rfl (by kernel_rfl) (by kernel_rfl) (by kernel_rfl) (fun _ _ _ h => h) (Or.inl ⟨by rfl, ?_⟩) hHeld ?_
  rotate_left
  · intro wq hSw
    try dsimp only at hSw
    go_simp
    try rw [if_neg (by omega)]
    try rw [if_pos (by omega)]
    try with_reducible rfl
  try simp only [Act.put, List.setIfInBounds_toArray, List.set_cons_zero, List.set_cons_succ]
  refine wpAnyH_take (i := 8) (v := ?_) rfl (by kernel_rfl) (by kernel_rfl) (by kernel_rfl) (fun _ _ _ h => h) (Or.inl ⟨by rfl, ?_⟩) hHeld ?_
  rotate_left
  · intro wq hSw
    try dsimp only at hSw
    go_simp
    try rw [if_neg (by omega)]
    try rw [if_pos (by omega)]
    try with_reducible rfl
  try simp only [Act.put, List.setIfInBounds_toArray, List.set_cons_zero, List.set_cons_succ]
  refine wpAnyH_take (i := 9) (v := ?_) rfl (by kernel_rfl) (by kernel_rfl) (by kernel_rfl) (fun _ _ _ h => h) (Or.inl ⟨by rfl, ?_⟩) hHeld ?_
  rotate_left
  · intro wq hSw
    try dsimp only at hSw
    go_simp
    try rw [if_neg (by omega)]
    try rw [if_pos (by omega)]
    try with_reducible rfl
  try simp only [Act.put, List.setIfInBounds_toArray, List.set_cons_zero, List.set_cons_succ]
  refine wpAnyH_ready (rs := [10]) (by kernel_rfl) (by simp) ?_
  refine AllReadyH.cons rfl (fun K hK => ?_) AllReadyH.nil
  go_simp
  refine hK.out _ _ (⟨(World.cell?_setCell_other _ _ _ _ (fun e => by injection e with e1; omega)).trans hHeld.1, (World.cell?_setCell_other _ _ _ _ (fun e => by injection e with e1; omega)).trans hHeld.2⟩) (fun hHeld2 => ?_)
  clear hK K
  try clear hHeld
  have hHeld := hHeld2
  try clear hHeld2
  refine wpAnyH_done (by kernel_rfl) ?_ _
  go_end0
  exact ⟨rfl, rfl⟩
end Go.Proofs.YtlinolgbpnokcaaGreatDoor.Dr
