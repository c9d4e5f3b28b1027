/- The law BlobPlaces: its walk. -/
import Derived.Test.YtghbgajapdkofaaBlobAlive
namespace Go.Proofs.Ytghbgajapdkofaa.Bl
open Go.RowKit Go.Proofs.Ytghbgajapdkofaa.Mem Go.Proofs.Ytghbgajapdkofaa.Pg

theorem put_lit (l : List UInt8) (L : List Int) (hl : l.length ≤ 1000) (hL : L.length ≤ 1000) (ok : Bool) (h : ok = true ↔ PutOk l L) (g n : Nat) (hn : n = L.length) (w : World) (hg : g = w.heap.size) :
    Calls Try.prog 6 #[.string (str l), .slice (some ⟨g, 0, none⟩) n n] (w.alloc (.cells (ints L).toArray 3)) fun e w' =>
      ∃ v, e = .returned (.tuple #[v, .bool ok]) ∧ Below w.heap.size w w' := by
  subst hn hg
  refine (put_any l (some ⟨w.heap.size, 0, none⟩) L.length L.length L _ hl (ints_lit w L _ hL _ rfl) (Nat.le_refl _)).mono ?_
  rintro e w2 (⟨hy, v, rfl, _, hb2⟩ | ⟨hno, rfl, hb2⟩)
  · rw [h.2 hy]; exact ⟨v, rfl, below_base (below_al (Below.refl _ w) _) (by simp) hb2⟩
  · obtain rfl : ok = false := by cases ok; rfl; exact absurd (h.1 rfl) hno
    exact ⟨_, rfl, below_base (below_al (Below.refl _ w) _) (by simp) hb2⟩
theorem put_nil (l : List UInt8) (hl : l.length ≤ 1000) (w : World) :
    Calls Try.prog 6 #[.string (str l), .slice none 0 0] w fun e w' => ∃ v, e = .returned (.tuple #[v, .bool false]) ∧ Below w.heap.size w w' := by
  refine (put_any l none 0 0 [] _ hl ⟨rfl, by omega, fun h => absurd h (by omega)⟩ (Nat.le_refl _)).mono ?_
  rintro e w2 (⟨hy, _⟩ | ⟨hno, rfl, hb2⟩)
  · exact absurd rfl hy.1
  · exact ⟨_, rfl, hb2⟩

def okTwo (a b : Int) : Bool := decide (2 ≤ a) && decide (a < 64) && (decide (2 ≤ b) && decide (b < 64)) && a != b
theorem putOk_two (N : Nat) (h1 : 200 < N) (h2 : N ≤ 400) (a b : Int) : okTwo a b = true ↔ PutOk (zs N) [a, b] := by
  have hp : pgN (zs N).length = 2 := by rw [zs, List.length_replicate]; unfold pgN; rw [if_neg (by omega)]; omega
  constructor
  · intro h
    simp [okTwo] at h
    refine ⟨by simp, by rw [hp]; rfl, fun i hi => ?_⟩
    match i, hi with
    | 0, _ => exact ⟨h.1.1.1, h.1.1.2, by simp⟩
    | 1, _ => exact ⟨h.1.2.1, h.1.2.2, by simp; omega⟩
  · intro h
    have h0 := h.2.2 0 (by simp)
    have h1 := h.2.2 1 (by simp)
    simp [OkAt] at h0 h1
    simp [okTwo]
    omega
theorem putOk_one (N : Nat) (h1 : 200 < N) (h2 : N ≤ 400) (L : List Int) (hL : L.length ≠ 2) : false = true ↔ PutOk (zs N) L := by
  have hp : pgN (zs N).length = 2 := by rw [zs, List.length_replicate]; unfold pgN; rw [if_neg (by omega)]; omega
  exact Iff.intro (fun h => by cases h) (fun h => absurd h.2.1 (by omega))

set_option maxRecDepth 100000 in
set_option maxHeartbeats 4000000 in
theorem places_yes (n : Nat) (a b : Int) (w : World) (h1 : 200 < n) (h2 : n ≤ 400) :
    Calls Try.prog 3 #[.int .i64 n, .int .i64 a, .int .i64 b] w fun e w' => e = .returned (.bool true) ∧ Below w.heap.size w w' := by
  have d1 : decide ((n : Int) ≤ 200) = false := by simp; omega
  have d2 : decide ((400 : Int) < n) = false := by simp; omega
  obtain ⟨A, hmk, hcv⟩ := make_zeros n (by omega)
  have hl : (zs n).length ≤ 1000 := by rw [zs, List.length_replicate]; omega
  have hp2 := fun g w hg => put_lit (zs n) [a, b] hl (by simp) (okTwo a b) (putOk_two n h1 h2 a b) g 2 rfl w hg
  have hp1 := fun g w hg => put_lit (zs n) [a] hl (by simp) false (putOk_one n h1 h2 [a] (by simp)) g 1 rfl w hg
  have hp3 := fun g w hg => put_lit (zs n) [a, b, 7] hl (by simp) false (putOk_one n h1 h2 [a, b, 7] (by simp)) g 3 rfl w hg
  have hp0 := fun w => put_nil (zs n) hl w
  clear hl h1 h2
  generalize str (zs n) = z at *
  generalize hok : okTwo a b = ok at *
  have Hok := Lib.hid hok
  clear hok
  go_enter Try.func3, Try.ntmps3
  go_wp2_with (go_at_call 4; refine (alive_any _).mono ?_; rintro e w1 ⟨rfl, hb1⟩)
  refine (hp2 _ _ (by simp)).mono ?_
  rintro e w2 ⟨v2, rfl, hb2⟩
  go_wp2_with fail
  refine (hp1 _ _ (by simp)).mono ?_
  rintro e w3 ⟨v3, rfl, hb3⟩
  go_wp2_with fail
  refine (hp3 _ _ (by simp)).mono ?_
  rintro e w4 ⟨v4, rfl, hb4⟩
  go_wp2_with fail
  refine (hp0 _).mono ?_
  rintro e w5 ⟨v5, rfl, hb5⟩
  have hbw := below_tr hb1 (below_base (below_al (Below.refl _ w1) _) (by simp) (below_tr hb2 (below_tr hb3 (below_tr hb4 hb5))))
  clear hb1 hb2 hb3 hb4 hb5 hp0 hp1 hp2 hp3 hmk hcv
  go_wp2
  all_goals go_ret
  all_goals refine ⟨?_, hbw⟩
  all_goals have hk := Hok.out
  all_goals clear Hok hbw
  all_goals simp [okTwo] at *
  all_goals subst hk
  all_goals first | (simp_all; done) | (simp at *; omega)

theorem places_no (n : Int) (a b : Int) (w : World) (h : n ≤ 200 ∨ 400 < n) :
    Calls Try.prog 3 #[.int .i64 n, .int .i64 a, .int .i64 b] w fun e w' => e = .returned (.bool true) ∧ Below w.heap.size w w' := by
  rcases (show n ≤ 200 ∨ 200 < n ∧ 400 < n from by omega) with h | ⟨h1, h⟩
  all_goals
    go_enter Try.func3, Try.ntmps3
    go_wp2_with (go_at_call 4; refine (alive_any _).mono ?_; rintro e w1 ⟨rfl, hb1⟩)
    go_ret
    exact ⟨rfl, hb1⟩
theorem places_any (n a b : Int) (w : World) :
    Calls Try.prog 3 #[.int .i64 n, .int .i64 a, .int .i64 b] w fun e w' => e = .returned (.bool true) ∧ Below w.heap.size w w' := by
  by_cases h : 200 < n ∧ n ≤ 400
  · obtain ⟨N, rfl⟩ := Int.eq_ofNat_of_zero_le (show 0 ≤ n from by omega)
    exact places_yes N a b w (by omega) (by omega)
  · exact places_no n a b w (by omega)
end Go.Proofs.Ytghbgajapdkofaa.Bl
