/- The law BlobOthers: its walk. -/
import Derived.Test.YtghbgajapdkofaaDoorBlobBack
import Derived.Deep.RegionHeld
import Derived.Lib.SlicesS
namespace Go.Proofs.YtghbgajapdkofaaDoor.Bl
open Go.RowKit Go.Proofs.YtghbgajapdkofaaDoor.Mem Go.Proofs.YtghbgajapdkofaaDoor.Pg

theorem putOk_30 {l : List UInt8} (h1 : 200 < l.length) (h2 : l.length ≤ 400) : PutOk l [30, 31] := by
  have hp : pgN l.length = 2 := by unfold pgN; rw [if_neg (by omega)]; omega
  refine ⟨by simp, by rw [hp]; rfl, fun i hi => ?_⟩
  match i, hi with
  | 0, _ => exact ⟨by decide, by decide, by decide⟩
  | 1, _ => exact ⟨by decide, by decide, by decide⟩
theorem turned_no (z : Int) (a b : Pg) (h : a.x = 0) : ¬ GetOk z [a, b] := fun hk => by
  have h1 := (hk.2.2 0 a rfl).2.1.1 h
  simp at h1
theorem one_no (z : Int) (a : Pg) (h : pgI z = 2) : ¬ GetOk z [a] := fun hk => by
  have h1 := hk.2.1
  simp at h1
  omega
theorem get_no {z : Int} {l : List Pg} (hno : ¬ GetOk z l) {A : Option Addr} {n cap : Nat} {w : World} (hz : Pgs w A n l) :
    Calls Tryd.prog 10 #[.int .i64 z, .slice A n cap] w fun e w' => e = .returned (.tuple #[.string ⟨#[]⟩, .bool false]) ∧ Below w.heap.size w w' := by
  refine (get_any z A n cap l w hz).mono ?_
  rintro e w' ⟨⟨hk, _⟩ | ⟨_, rfl⟩, hb⟩
  · exact absurd hk hno
  · exact ⟨rfl, hb⟩
theorem get_yes {z : Int} {l : List Pg} (hyes : GetOk z l) {A : Option Addr} {n cap : Nat} {w : World} (hz : Pgs w A n l) :
    Calls Tryd.prog 10 #[.int .i64 z, .slice A n cap] w fun e w' => e = .returned (.tuple #[.string (str (got z l l.length)), .bool true]) ∧ Below w.heap.size w w' := by
  refine (get_any z A n cap l w hz).mono ?_
  rintro e w' ⟨⟨_, rfl⟩ | ⟨hno, _⟩, hb⟩
  · exact ⟨rfl, hb⟩
  · exact absurd hyes hno

def C8 (g : Nat) (S0 S1 : ByteArray) (w' : World) : Prop := w'.cell? ⟨g, 0, none⟩ = some (.int .i64 5) ∧ w'.cell? ⟨g, 1, none⟩ = some (.int .i64 0) ∧ w'.cell? ⟨g, 2, none⟩ = some (.int .i64 31) ∧ w'.cell? ⟨g, 3, none⟩ = some (.string S0) ∧ w'.cell? ⟨g, 4, none⟩ = some (.int .i64 5) ∧ w'.cell? ⟨g, 5, none⟩ = some (.int .i64 0) ∧ w'.cell? ⟨g, 6, none⟩ = some (.int .i64 0) ∧ w'.cell? ⟨g, 7, none⟩ = some (.string S1)
theorem C8.keep {g : Nat} {S0 S1 : ByteArray} {w w' : World} (h : C8 g S0 S1 w) (hk : ∀ j, w'.cell? ⟨g, j, none⟩ = w.cell? ⟨g, j, none⟩) : C8 g S0 S1 w' := by
  unfold C8 at *
  simp only [hk]
  exact h

theorem pgs8 {g : Nat} {w : World} {l : List UInt8} (h : C8 g (str (body l 0)) (str (body l 1)) w) (hg : g < w.heap.size) : Pgs w (some ⟨g, 0, none⟩) 2 (putPg l [30, 31] 2) := by
  obtain ⟨c0, c1, c2, c3, c4, c5, c6, c7⟩ := h
  refine ⟨rfl, by omega, fun _ => ⟨g, 0, rfl, hg, fun i p hp j u hu => ?_⟩⟩
  obtain ⟨hi, rfl⟩ := putPg_get hp
  have hj : j < 4 := by have := (List.getElem?_eq_some_iff.1 hu).1; simpa [Pg.cells] using this
  match i, hi, j, hj with
  | 0, _, 0, _ => injection hu with hu; subst hu; exact c0
  | 0, _, 1, _ => injection hu with hu; subst hu; exact c1
  | 0, _, 2, _ => injection hu with hu; subst hu; exact c2
  | 0, _, 3, _ => injection hu with hu; subst hu; exact c3
  | 1, _, 0, _ => injection hu with hu; subst hu; exact c4
  | 1, _, 1, _ => injection hu with hu; subst hu; exact c5
  | 1, _, 2, _ => injection hu with hu; subst hu; exact c6
  | 1, _, 3, _ => injection hu with hu; subst hu; exact c7

set_option maxRecDepth 100000 in
set_option maxHeartbeats 4000000 in
theorem others_yes (l : List UInt8) (z : Int) (w : World) (h1 : 200 < l.length) (h2 : l.length ≤ 400) :
    Calls Tryd.prog 5 #[.string (str l), .int .i64 z] w fun e w' => e = .returned (.bool true) ∧ Below w.heap.size w w' := by
  have hok := putOk_30 h1 h2
  have hput := fun g w hg => put_own l [30, 31] (by omega) (by simp) hok g 2 rfl w hg
  have hpI : pgI (l.length : Int) = 2 := by rw [pgI_nat]; unfold pgN; rw [if_neg (by omega)]; omega
  have d1 : decide ((l.length : Int) ≤ 200) = false := by simp; omega
  have d2 : decide ((400 : Int) < (l.length : Int)) = false := by simp; omega
  have hsl : (str l).size = l.length := str_size l
  have Hl1 := Lib.hid h1
  have Hok := Lib.hid hok
  have HI := Lib.hid hpI
  obtain ⟨S, hS⟩ : ∃ S, S = str l := ⟨_, rfl⟩
  obtain ⟨N, hN⟩ : ∃ N, N = l.length := ⟨_, rfl⟩
  rw [← hS] at hput hsl ⊢
  rw [← hN] at hsl d1 d2
  have HS := Lib.hid hS
  have HN := Lib.hid hN
  clear hok h1 h2 hpI hS hN
  go_enter Tryd.func5, Tryd.ntmps5
  go_wp2_with (go_at_call 6; refine (alive_any _).mono ?_; rintro e w1 ⟨rfl, hb1⟩)
  refine (hput _ _ (by simp)).mono ?_
  rintro e w2 ⟨g, cap, rfl, hown, hgl, hgb, hb2⟩
  have c0 := own_at hown 0 _ (by rfl)
  have c1 := own_at hown 1 _ (by rfl)
  have c2 := own_at hown 2 _ (by rfl)
  have c3 := own_at hown 3 _ (by rfl)
  have c4 := own_at hown 4 _ (by rfl)
  have c5 := own_at hown 5 _ (by rfl)
  have c6 := own_at hown 6 _ (by rfl)
  have c7 := own_at hown 7 _ (by rfl)
  have hpg := Lib.hid (pgs_own hown (by omega) hgl)
  have hbw := Lib.hid (below_tr hb1 hb2)
  obtain ⟨S0, hS0⟩ : ∃ S0, S0 = str (body l 0) := ⟨_, rfl⟩
  obtain ⟨S1, hS1⟩ : ∃ S1, S1 = str (body l 1) := ⟨_, rfl⟩
  have hget : ∀ W : World, Below w.heap.size w W → g < W.heap.size → ∀ g', g' = W.heap.size → Calls Tryd.prog 10 #[.int .i64 N, .slice (some ⟨g', 0, none⟩) 2 2]
      (W.alloc (.cells #[.int .i64 5, .int .i64 0, .int .i64 0, .string S1, .int .i64 5, .int .i64 0, .int .i64 31, .string S0] 30)) fun e w' =>
        e = .returned (.tuple #[.string ⟨#[]⟩, .bool false]) ∧ Below w.heap.size w w' ∧ g < w'.heap.size ∧ ∀ j, w'.cell? ⟨g, j, none⟩ = W.cell? ⟨g, j, none⟩ := by
    intro W hW hg g' hg'
    subst hg'
    rw [hS0, hS1]
    refine (get_no (turned_no N ⟨5, 0, 0, body l 1⟩ ⟨5, 0, 31, body l 0⟩ rfl) (pgs_lit W [⟨5, 0, 0, body l 1⟩, ⟨5, 0, 31, body l 0⟩] _ (by simp) _ rfl)).mono ?_
    rintro e w' ⟨rfl, hb⟩
    have hb' : Below W.heap.size W w' := below_base (below_al (Below.refl _ W) _) (by simp) hb
    exact ⟨rfl, below_base hW hW.size hb', Nat.lt_of_lt_of_le hg hb'.size, fun j => hb'.cell (p := ⟨g, j, none⟩) hg⟩
  have hget0 : ∀ W : World, ∀ g', g' = W.heap.size → Calls Tryd.prog 10 #[.int .i64 N, .slice (some ⟨g', 0, none⟩) 1 1]
      (W.alloc (.cells #[.int .i64 5, .int .i64 0, .int .i64 31, .string S0] 30)) fun e w' =>
        e = .returned (.tuple #[.string ⟨#[]⟩, .bool false]) ∧ Below W.heap.size W w' := by
    intro W g' hg'
    subst hg'
    rw [hS0]
    refine (get_no (one_no N ⟨5, 0, 31, body l 0⟩ (by rw [HN.out]; exact HI.out)) (pgs_lit W [⟨5, 0, 31, body l 0⟩] _ (by simp) _ rfl)).mono ?_
    rintro e w' ⟨rfl, hb⟩
    exact ⟨rfl, below_base (below_al (Below.refl _ W) _) (by simp) hb⟩
  have c3' : w2.cell? ⟨g, 3, none⟩ = some (.string S0) := by rw [hS0]; exact c3
  have c7' : w2.cell? ⟨g, 7, none⟩ = some (.string S1) := by rw [hS1]; exact c7
  have hlt := hgl
  have hbb : Below w.heap.size w w2 := hbw.out
  have HS0 := Lib.hid hS0
  have HS1 := Lib.hid hS1
  clear hput hb1 hb2 hown hgb c3 c7 hS0 hS1
  change w2.cell? ⟨g, 0, none⟩ = some (.int .i64 5) at c0
  change w2.cell? ⟨g, 1, none⟩ = some (.int .i64 0) at c1
  change w2.cell? ⟨g, 2, none⟩ = some (.int .i64 31) at c2
  change w2.cell? ⟨g, 4, none⟩ = some (.int .i64 5) at c4
  change w2.cell? ⟨g, 5, none⟩ = some (.int .i64 0) at c5
  change w2.cell? ⟨g, 6, none⟩ = some (.int .i64 0) at c6
  go_wp2_with fail
  refine wp_region_held_drew (S := fun w' => Below w.heap.size w w' ∧ g < w'.heap.size ∧ w'.cell? ⟨g, 0, none⟩ = some (.int .i64 5) ∧ w'.cell? ⟨g, 1, none⟩ = some (.int .i64 0) ∧ w'.cell? ⟨g, 2, none⟩ = some (.int .i64 31) ∧ w'.cell? ⟨g, 3, none⟩ = some (.string S0) ∧ w'.cell? ⟨g, 4, none⟩ = some (.int .i64 5) ∧ w'.cell? ⟨g, 5, none⟩ = some (.int .i64 0) ∧ w'.cell? ⟨g, 6, none⟩ = some (.int .i64 0) ∧ w'.cell? ⟨g, 7, none⟩ = some (.string S1)) (by kernel_rfl) (⟨below_dr hbb, hlt, c0, c1, c2, c3', c4, c5, c6, c7'⟩) (fun hHeld => ?_)
  have hc8 : C8 g S0 S1 w2 := ⟨c0, c1, c2, c3', c4, c5, c6, c7'⟩
  clear hbb hlt c0 c1 c2 c3' c4 c5 c6 c7'
  refine wpAnyH_take (i := 0) (v := ?_) rfl (by kernel_rfl) (by kernel_rfl) (by kernel_rfl) (fun _ _ _ h => h) (Or.inl ⟨by rfl, ?_⟩) hHeld ?_
  rotate_left
  · intro w hSw
    try dsimp only at hSw
    go_simp
    try with_reducible rfl
  try simp only [Act.put, List.setIfInBounds_toArray, List.set_cons_zero, List.set_cons_succ]
  refine wpAnyH_take (i := 1) (v := ?_) rfl (by kernel_rfl) (by kernel_rfl) (by kernel_rfl) (fun _ _ _ h => h) (Or.inl ⟨by rfl, ?_⟩) hHeld ?_
  rotate_left
  · intro w hSw
    try dsimp only at hSw
    go_simp
    try with_reducible rfl
  try simp only [Act.put, List.setIfInBounds_toArray, List.set_cons_zero, List.set_cons_succ]
  refine wpAnyH_take (i := 2) (v := ?_) rfl (by kernel_rfl) (by kernel_rfl) (by kernel_rfl) (fun _ _ _ h => h) (Or.inl ⟨by rfl, ?_⟩) hHeld ?_
  rotate_left
  · intro w hSw
    try dsimp only at hSw
    go_simp
    try with_reducible rfl
  try simp only [Act.put, List.setIfInBounds_toArray, List.set_cons_zero, List.set_cons_succ]
  refine wpAnyH_take (i := 3) (v := ?_) rfl (by kernel_rfl) (by kernel_rfl) (by kernel_rfl) (fun _ _ _ h => h) (Or.inl ⟨by rfl, ?_⟩) hHeld ?_
  rotate_left
  · intro w hSw
    try dsimp only at hSw
    go_simp
    try with_reducible rfl
  try simp only [Act.put, List.setIfInBounds_toArray, List.set_cons_zero, List.set_cons_succ]
  refine wpAnyH_take (i := 4) (v := ?_) rfl (by kernel_rfl) (by kernel_rfl) (by kernel_rfl) (fun _ _ _ h => h) (Or.inl ⟨by rfl, ?_⟩) hHeld ?_
  rotate_left
  · intro w hSw
    try dsimp only at hSw
    go_simp
    try with_reducible rfl
  try simp only [Act.put, List.setIfInBounds_toArray, List.set_cons_zero, List.set_cons_succ]
  refine wpAnyH_take (i := 5) (v := ?_) rfl (by kernel_rfl) (by kernel_rfl) (by kernel_rfl) (fun _ _ _ h => h) (Or.inl ⟨by rfl, ?_⟩) hHeld ?_
  rotate_left
  · intro w hSw
    try dsimp only at hSw
    go_simp
    try with_reducible rfl
  try simp only [Act.put, List.setIfInBounds_toArray, List.set_cons_zero, List.set_cons_succ]
  refine wpAnyH_take (i := 6) (v := ?_) rfl (by kernel_rfl) (by kernel_rfl) (by kernel_rfl) (fun _ _ _ h => h) (Or.inl ⟨by rfl, ?_⟩) hHeld ?_
  rotate_left
  · intro w hSw
    try dsimp only at hSw
    go_simp
    try with_reducible rfl
  try simp only [Act.put, List.setIfInBounds_toArray, List.set_cons_zero, List.set_cons_succ]
  refine wpAnyH_take (i := 7) (v := ?_) rfl (by kernel_rfl) (by kernel_rfl) (by kernel_rfl) (fun _ _ _ h => h) (Or.inl ⟨by rfl, ?_⟩) hHeld ?_
  rotate_left
  · intro w hSw
    try dsimp only at hSw
    go_simp
    try with_reducible rfl
  try simp only [Act.put, List.setIfInBounds_toArray, List.set_cons_zero, List.set_cons_succ]
  refine wpAnyH_ready (rs := [8]) (by kernel_rfl) (by simp) ?_
  refine AllReadyH.cons rfl (fun K hK => ?_) AllReadyH.nil
  go_simp
  refine hK.out _ _ (⟨below_al hHeld.1 _, lt_al hHeld.2.1 _, C8.keep hHeld.2.2 (fun j => World.cell?_alloc_lt _ _ _ hHeld.2.1)⟩) (fun hHeld2 => ?_)
  clear hK K hHeld
  have hHeld := hHeld2
  clear hHeld2
  refine wpAnyH_ready (rs := [9]) (by kernel_rfl) (by simp) ?_
  refine AllReadyH.cons rfl (fun K hK => ?_) AllReadyH.nil
  go_simp
  refine (hget w2.drew (below_dr hbw.out) hgl _ rfl).mono ?_
  rintro e w3 ⟨rfl, hb3, hl3, hcc3⟩
  dsimp only
  refine hK.out _ _ (⟨hb3, hl3, C8.keep hc8 (fun j => hcc3 j)⟩) (fun hHeld2 => ?_)
  clear hK K hHeld
  have hHeld := hHeld2
  clear hHeld2
  refine wpAnyH_take (i := 10) (v := ?_) rfl (by kernel_rfl) (by kernel_rfl) (by kernel_rfl) (fun _ _ _ h => h) (Or.inl ⟨by rfl, ?_⟩) hHeld ?_
  rotate_left
  · intro w hSw
    try dsimp only at hSw
    go_simp
    try with_reducible rfl
  try simp only [Act.put, List.setIfInBounds_toArray, List.set_cons_zero, List.set_cons_succ]
  refine wpAnyH_take (i := 11) (v := ?_) rfl (by kernel_rfl) (by kernel_rfl) (by kernel_rfl) (fun _ _ _ h => h) (Or.inl ⟨by rfl, ?_⟩) hHeld ?_
  rotate_left
  · intro w hSw
    try dsimp only at hSw
    go_simp
    try with_reducible rfl
  try simp only [Act.put, List.setIfInBounds_toArray, List.set_cons_zero, List.set_cons_succ]
  refine wpAnyH_take (i := 12) (v := ?_) rfl (by kernel_rfl) (by kernel_rfl) (by kernel_rfl) (fun _ _ _ h => h) (Or.inl ⟨by rfl, ?_⟩) hHeld ?_
  rotate_left
  · intro w hSw
    try dsimp only at hSw
    go_simp
    try with_reducible rfl
  try simp only [Act.put, List.setIfInBounds_toArray, List.set_cons_zero, List.set_cons_succ]
  refine wpAnyH_take (i := 13) (v := ?_) rfl (by kernel_rfl) (by kernel_rfl) (by kernel_rfl) (fun _ _ _ h => h) (Or.inl ⟨by rfl, ?_⟩) hHeld ?_
  rotate_left
  · intro w hSw
    try dsimp only at hSw
    go_simp
    try with_reducible rfl
  try simp only [Act.put, List.setIfInBounds_toArray, List.set_cons_zero, List.set_cons_succ]
  refine wpAnyH_take (i := 14) (v := ?_) rfl (by kernel_rfl) (by kernel_rfl) (by kernel_rfl) (fun _ _ _ h => h) (Or.inl ⟨by rfl, ?_⟩) hHeld ?_
  rotate_left
  · intro w hSw
    try dsimp only at hSw
    go_simp
    try with_reducible rfl
  try simp only [Act.put, List.setIfInBounds_toArray, List.set_cons_zero, List.set_cons_succ]
  refine wpAnyH_done (by kernel_rfl) ?_ _
  obtain ⟨hbw3, hg3, c0, c1, c2, c3, c4, c5, c6, c7⟩ := hHeld
  have h8 : C8 g S0 S1 w3 := ⟨c0, c1, c2, c3, c4, c5, c6, c7⟩
  have hpg3 : Pgs w3 (some ⟨g, 0, none⟩) 2 (putPg l [30, 31] 2) := pgs8 (by rw [← HS0.out, ← HS1.out]; exact h8) hg3
  clear hget c0 c1 c2 c3 c4 c5 c6 c7 hpg hbw
  have H8 := Lib.hid h8
  have hg0 := fun W (h : C8 g S0 S1 W) => h.1
  clear h8
  by_cases hzk : GetOk z (putPg l [30, 31] 2)
  · have hgz := get_yes (cap := cap) hzk hpg3
    obtain ⟨R, hR⟩ : ∃ R, R = str (got z (putPg l [30, 31] 2) (putPg l [30, 31] 2).length) := ⟨_, rfl⟩
    rw [← hR] at hgz
    have HR := Lib.hid hR
    have Hzk := Lib.hid hzk
    have hRs : (R.size : Int) = z := by rw [hR, str_size]; exact got_size hzk
    clear hR hzk hpg3
    go_wp2_with fail
    with_reducible refine hgz.mono ?_
    rintro e w4 ⟨rfl, hb4⟩
    have h84 := H8.out.keep (fun j => hb4.cell (p := ⟨g, j, none⟩) hg3)
    obtain ⟨c0, c1, c2, c3, _, _, _, _⟩ := h84
    have hg4 := Nat.lt_of_lt_of_le hg3 hb4.size
    have hbw4 := below_base hbw3 hbw3.size hb4
    clear hgz hb4 hbw3 hg3 H8
    go_wp2_with fail
    refine (hget0 w4 _ rfl).mono ?_
    rintro e w5 ⟨rfl, hb5⟩
    have hbw5 := below_base hbw4 hbw4.size hb5
    clear c0 c1 c2 c3 hget0 hg4 hb5 hbw4
    by_cases hzN : z = (N : Int)
    · have hRS : R = S := by rw [HR.out, HS.out, hzN, HN.out]; congr 2; exact got_put_all Hok.out
      subst hRS
      clear hRs
      have hzN' : (z == (N : Int)) = true := by simpa using hzN
      clear hzN
      go_wp2
      go_ret
      exact ⟨rfl, hbw5⟩
    · have hzN' : (z == (N : Int)) = false := by simpa using hzN
      have hne : (R.toList == S.toList) = false := by
        rw [Bool.eq_false_iff]
        intro h
        have h2 := (Lib.bytes_beq_iff R S).1 h
        subst h2
        omega
      go_wp2
      go_ret
      exact ⟨rfl, hbw5⟩
  · have hgz := get_no (cap := cap) hzk hpg3
    have hzN : Hid (¬ z = (N : Int)) := fun h => hzk (by rw [h, HN.out]; exact getOk_put Hok.out)
    have hzN' : (z == (N : Int)) = false := by simpa using hzN.out
    clear hzk hpg3
    go_wp2_with fail
    with_reducible refine hgz.mono ?_
    rintro e w4 ⟨rfl, hb4⟩
    have h84 := H8.out.keep (fun j => hb4.cell (p := ⟨g, j, none⟩) hg3)
    obtain ⟨c0, c1, c2, c3, _, _, _, _⟩ := h84
    have hg4 := Nat.lt_of_lt_of_le hg3 hb4.size
    have hbw4 := below_base hbw3 hbw3.size hb4
    clear hgz hb4 hbw3 hg3 H8
    go_wp2_with fail
    refine (hget0 w4 _ rfl).mono ?_
    rintro e w5 ⟨rfl, hb5⟩
    have hbw5 := below_base hbw4 hbw4.size hb5
    clear c0 c1 c2 c3 hget0 hg4 hb5 hbw4
    go_wp2
    go_ret
    exact ⟨rfl, hbw5⟩

theorem others_no (s : ByteArray) (z : Int) (w : World) (h : s.size ≤ 200 ∨ 400 < s.size) :
    Calls Tryd.prog 5 #[.string s, .int .i64 z] w fun e w' => e = .returned (.bool true) ∧ Below w.heap.size w w' := by
  rcases (show s.size ≤ 200 ∨ ¬ s.size ≤ 200 ∧ 400 < s.size from by omega) with h | ⟨h1, h⟩
  · have d1 : decide ((s.size : Int) ≤ 200) = true := by simp; omega
    go_enter Tryd.func5, Tryd.ntmps5
    go_wp2_with (go_at_call 6; refine (alive_any _).mono ?_; rintro e w1 ⟨rfl, hb1⟩)
    go_ret
    exact ⟨rfl, hb1⟩
  · have d1 : decide ((s.size : Int) ≤ 200) = false := by simp; omega
    have d2 : decide (400 < (s.size : Int)) = true := by simp; omega
    go_enter Tryd.func5, Tryd.ntmps5
    go_wp2_with (go_at_call 6; refine (alive_any _).mono ?_; rintro e w1 ⟨rfl, hb1⟩)
    go_ret
    exact ⟨rfl, hb1⟩
theorem others_any (s : ByteArray) (z : Int) (w : World) :
    Calls Tryd.prog 5 #[.string s, .int .i64 z] w fun e w' => e = .returned (.bool true) ∧ Below w.heap.size w w' := by
  by_cases h : 200 < s.size ∧ s.size ≤ 400
  · rw [str_of s] at h ⊢
    rw [str_size] at h
    exact others_yes _ z w h.1 h.2
  · exact others_no s z w (by omega)
end Go.Proofs.YtghbgajapdkofaaDoor.Bl
