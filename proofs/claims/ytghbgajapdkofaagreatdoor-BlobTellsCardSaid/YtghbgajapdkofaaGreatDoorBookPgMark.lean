/- The book's pages: what a list of pages is, markPages, SamePages of two that are alike. -/
import Derived.Test.YtghbgajapdkofaaGreatDoorBookMarked
import Derived.Deep.AppendLies
namespace Go.Proofs.YtghbgajapdkofaaGreatDoor.Bp
open Go.RowKit Go.Proofs.YtghbgajapdkofaaGreatDoor.Mem Go.Proofs.YtghbgajapdkofaaGreatDoor.Bk

/-- A page's four cells. -/
structure P4 where
  k : Int
  d : Int
  x : Int
  s : ByteArray
def P4.cells (p : P4) : List Value := [.int .i64 p.k, .int .i64 p.d, .int .i64 p.x, .string p.s]
def pages (l : List P4) : List Value := l.flatMap P4.cells
theorem pages_len (l : List P4) : (pages l).length = l.length * 4 := by
  induction l with
  | nil => rfl
  | cons p l ih => rw [pages, List.flatMap_cons, List.length_append, ← pages, ih]; simp [P4.cells]; omega
theorem pages_app (a b : List P4) : pages (a ++ b) = pages a ++ pages b := by simp [pages]
theorem pages_at : ∀ (l : List P4) (i j : Nat) (p : P4), l[i]? = some p → j < 4 → (pages l)[i * 4 + j]? = p.cells[j]?
  | [], i, j, p, h, _ => by simp at h
  | q :: l, 0, j, p, h, hj => by
    obtain rfl : q = p := by simpa using h
    rw [pages, List.flatMap_cons, Nat.zero_mul, Nat.zero_add, List.getElem?_append_left (by simpa [P4.cells] using hj)]
  | q :: l, i + 1, j, p, h, hj => by
    have h2 := pages_at l i j p (by simpa using h) hj
    rw [pages, List.flatMap_cons, List.getElem?_append_right (by simp [P4.cells]; omega), ← pages, show (i + 1) * 4 + j - q.cells.length = i * 4 + j by simp [P4.cells]; omega]
    exact h2
theorem pages_one (l : List P4) : ∀ u ∈ pages l, u.oneCell' = true := by
  intro u hu
  simp only [pages, List.mem_flatMap] at hu
  obtain ⟨p, _, hp⟩ := hu
  simp [P4.cells] at hp
  rcases hp with rfl | rfl | rfl | rfl <;> rfl
/-- Marks. -/
def mkp (i f n : Nat) : List P4 := (List.range n).map fun k => ⟨0, -1000 * (i : Int) - ((f + k : Nat) : Int) - 1, 0, ⟨#[]⟩⟩
theorem mkp_len (i f n : Nat) : (mkp i f n).length = n := by simp [mkp]
theorem mkp_zero (i f : Nat) : mkp i f 0 = [] := rfl
theorem mkp_succ (i f n : Nat) : mkp i f (n + 1) = mkp i f n ++ [⟨0, -1000 * (i : Int) - ((f + n : Nat) : Int) - 1, 0, ⟨#[]⟩⟩] := by simp [mkp, List.range_succ]
theorem mkp_add (i f n m : Nat) : mkp i f (n + m) = mkp i f n ++ mkp i (f + n) m := by
  induction m with
  | zero => simp [mkp_zero]
  | succ m ih => rw [← Nat.add_assoc, mkp_succ, ih, mkp_succ, List.append_assoc, Nat.add_assoc]
theorem mkp_get (i f n j : Nat) (h : j < n) : (mkp i f n)[j]? = some ⟨0, -1000 * (i : Int) - ((f + j : Nat) : Int) - 1, 0, ⟨#[]⟩⟩ := by simp [mkp, h]

theorem info_page : (Tryz.prog.info? 26).map (fun i => (i.zero, i.size, i.bytes)) = some (some (.agg #[.int .i64 0, .int .i64 0, .int .i64 0, .string ⟨#[]⟩]), 4, 40) := by kernel_rfl

set_option maxRecDepth 100000 in
set_option maxHeartbeats 1000000 in
theorem markp_any (i f n : Nat) (w : World) (hi : i ≤ 100000) (hf : f + n ≤ 10000000) :
    Calls Tryz.prog 85 #[.int .i64 i, .int .i64 f, .int .i64 n] w fun e w' => ∃ v, e = .returned v ∧ w'.ownsRow w.heap.size 26 4 v n (pages (mkp i f n)) ∧ Below w.heap.size w w' := by
  obtain ⟨i0, hif, hz0, hz1, hz2⟩ := info_parts info_page
  have i1 : IntKind.i64.wrap ((f : Int) + n) = ((f + n : Nat) : Int) := by rw [IntWalk.i64_in _ (by omega)]; omega
  have i2 : IntKind.i64.wrap (-1000 * (i : Int)) = -1000 * (i : Int) := IntWalk.i64_in _ (by omega)
  go_enter Tryz.func85, Tryz.ntmps85
  go_wp2
  go_loopw [7, 8] (fun v i' wr => ∃ j : Nat, i' = .int .i64 ((f + j : Nat) : Int) ∧ j ≤ n ∧ wr.ownsRow w.heap.size 26 4 v j (pages (mkp i f j)) ∧ Below w.heap.size w wr) (fun _ i' _ => f + n - (intOf i').toNat)
  case atStart => exact ⟨0, rfl, by omega, World.ownsRow_nil _ _ _ _, Below.refl _ _⟩
  case round =>
    obtain ⟨j, rfl, hj, hown, hbel⟩ := hrel
    have hb0 := hbel.size
    by_cases hlt : j < n
    · obtain ⟨y, hy⟩ : ∃ y, y = -1000 * (i : Int) - ((f + j : Nat) : Int) - 1 := ⟨_, rfl⟩
      have i3 : IntKind.i64.wrap (-1000 * (i : Int) - ((f + j : Nat) : Int)) = -1000 * (i : Int) - ((f + j : Nat) : Int) := IntWalk.i64_in _ (by omega)
      have i4 : IntKind.i64.wrap (-1000 * (i : Int) - ((f + j : Nat) : Int) - 1) = y := by rw [hy]; exact IntWalk.i64_in _ (by omega)
      have i5 : IntKind.i64.wrap (((f + j : Nat) : Int) + 1) = ((f + j : Nat) : Int) + 1 := IntWalk.i64_in _ (by omega)
      have i6 : (((f + j : Nat) : Int) < ((f + n : Nat) : Int)) := by omega
      have Hy := Lib.hid hy
      clear hy
      generalize hF : ((f + j : Nat) : Int) = J at *
      have hcn := cells_new (wr) wr.heap.size rfl (P4.cells ⟨0, y, 0, ⟨#[]⟩⟩) 26
      have hone := pages_one [⟨0, y, 0, ⟨#[]⟩⟩]
      go_wp2_with (at_builtin; refine wpList_append_own _ rfl (.tmp 17) (.tmp 24) _ rfl w.heap.size 26 i0 _ 4 40 Tryz.underlying23 hif hz0 hz1 hz2 rfl (by decide) _ j (pages (mkp i f j)) rfl (hown.alloc _) ⟨wr.heap.size, 0, none⟩ 1 1 (pages [⟨0, y, 0, ⟨#[]⟩⟩]) rfl rfl hcn hone (by unfold maxLen; omega) (by omega) (by simp; omega) ?_; intro v' w3 hown' hgrow _)
      case roundEnd =>
        refine ⟨⟨j + 1, by rw [← hF]; simp; omega, by omega, ?_, below_grown (below_al hbel _) (by simp; omega) hown hgrow⟩, by simp only [intOf]; omega⟩
        rw [mkp_succ, pages_app]
        have := Hy.out
        rw [hF, ← this]
        exact hown'
    · obtain rfl : j = n := by omega
      go_wp2
      go_ret
      exact ⟨_, rfl, hown, hbel⟩

/-- A list of pages as it is read. -/
def Rp (w : World) (A : Option Addr) (l : List P4) : Prop :=
  l.length ≤ 9223372036854775807 ∧ (0 < l.length → ∃ b off, A = some ⟨b, off, none⟩ ∧ b < w.heap.size ∧ ∀ i p, l[i]? = some p → ∀ j, j < 4 → w.cell? ⟨b, off + i * 4 + j, none⟩ = p.cells[j]?)
theorem Rp.below {w w' : World} {A : Option Addr} {l : List P4} (h : Rp w A l) (hb : Below w.heap.size w w') : Rp w' A l :=
  ⟨h.1, fun h0 => by
    obtain ⟨b, off, hA, hlt, hc⟩ := h.2 h0
    exact ⟨b, off, hA, Nat.lt_of_lt_of_le hlt hb.size, fun i p hp j hj => (hb.cell hlt).trans (hc i p hp j hj)⟩⟩

set_option maxRecDepth 100000 in
set_option maxHeartbeats 1000000 in
theorem samePages_yes (A B : Option Addr) (c d : Nat) (l : List P4) (w : World) (ha : Rp w A l) (hb : Rp w B l) :
    Calls Tryz.prog 12 #[.slice A l.length c, .slice B l.length d] w fun e w' => e = .returned (.bool true) ∧ Below w.heap.size w w' := by
  obtain ⟨n, hn⟩ : ∃ n, n = l.length := ⟨_, rfl⟩
  have hn2 : n ≤ 9223372036854775807 := by rw [hn]; exact ha.1
  rw [← hn]
  have Hn := Lib.hid hn
  have Ha := Lib.hid ha
  have Hb := Lib.hid hb
  clear hn ha hb
  go_enter Tryz.func12, Tryz.ntmps12
  go_wp2
  go_loopw [5] (fun i wr => ∃ k : Nat, i = .int .i64 k ∧ k ≤ n ∧ Below w.heap.size w wr) (fun i _ => n - (intOf i).toNat)
  case atStart => exact ⟨0, rfl, Nat.zero_le _, Below.refl _ _⟩
  case round =>
    obtain ⟨k, rfl, hk, hbel⟩ := hrel
    by_cases hlt : k < n
    · have hkl : k < l.length := by rw [← Hn.out]; exact hlt
      obtain ⟨b, off, rfl, _, hca⟩ := (Ha.out.below hbel).2 (by omega)
      obtain ⟨b', off', rfl, _, hcb⟩ := (Hb.out.below hbel).2 (by omega)
      obtain ⟨p, hp⟩ : ∃ p, l[k]? = some p := ⟨l[k], List.getElem?_eq_getElem hkl⟩
      have a0 := hca k p hp 0 (by omega)
      have a1 := hca k p hp 1 (by omega)
      have a2 := hca k p hp 2 (by omega)
      have a3 := hca k p hp 3 (by omega)
      have b0 := hcb k p hp 0 (by omega)
      have b1 := hcb k p hp 1 (by omega)
      have b2 := hcb k p hp 2 (by omega)
      have b3 := hcb k p hp 3 (by omega)
      simp only [P4.cells, Nat.add_zero, List.getElem?_cons_zero, List.getElem?_cons_succ] at a0 a1 a2 a3 b0 b1 b2 b3
      obtain ⟨x0, x1, x2, x3⟩ := p
      dsimp only at a0 a1 a2 a3 b0 b1 b2 b3
      have i1 : IntKind.i64.wrap ((k : Int) + 1) = (k : Int) + 1 := IntWalk.i64_in _ (by omega)
      clear hca hcb hp
      go_wp2
      go_quiet (fail)
      go_wp2
      go_roundw
      case rel => exact ⟨k + 1, by go_num, by omega, below_drN hbel _⟩
      case measure => simp [intOf]; omega
    · obtain rfl : k = n := by omega
      go_wp2
      go_ret
      exact ⟨rfl, hbel⟩
end Go.Proofs.YtghbgajapdkofaaGreatDoor.Bp
