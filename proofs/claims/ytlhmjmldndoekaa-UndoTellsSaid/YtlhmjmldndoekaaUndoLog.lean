/- Logs that the laws make themselves: a row of records of which only the kind, the transaction and the ways on are not zero. -/
import Derived.Test.YtlhmjmldndoekaaUndoNext
import Derived.Test.YtlhmjmldndoekaaSameInts
namespace Go.Proofs.Ytlhmjmldndoekaa.Undo
open Go.RowKit Go.Proofs.Ytlhmjmldndoekaa.Mem

abbrev Quad := Int × Int × Int × Int
/-- A record's cells. -/
def rec4 (r : Quad) : List Value :=
  [.int .i64 r.1, .int .i64 r.2.1, .int .i64 r.2.2.1, .int .i64 r.2.2.2, .string ⟨#[]⟩, .bool false, .string ⟨#[]⟩, .string ⟨#[]⟩, .int .i64 0, .int .i64 0, .slice none 0 0, .slice none 0 0, .slice none 0 0, .slice none 0 0]
def flat (L : List Quad) : List Value := L.flatMap rec4
theorem rec4_length (r : Quad) : (rec4 r).length = 14 := rfl
theorem flat_length (L : List Quad) : (flat L).length = L.length * 14 := by
  induction L with
  | nil => rfl
  | cons r L ih => simp only [flat, List.flatMap_cons, List.length_append, rec4_length, List.length_cons] at *; omega
theorem flat_get : ∀ (L : List Quad) (i j : Nat), i < L.length → j < 14 → (flat L)[i * 14 + j]? = (rec4 (L.getD i (0, 0, 0, 0)))[j]? := by
  intro L
  induction L with
  | nil => intro i j hi _; simp at hi
  | cons r L ih =>
    intro i j hi hj
    unfold flat
    rw [List.flatMap_cons]
    cases i with
    | zero => rw [List.getElem?_append_left (by rw [rec4_length]; omega)]; simp
    | succ i =>
      rw [List.getElem?_append_right (by rw [rec4_length]; omega), rec4_length]
      have := ih i j (by simpa using hi) hj
      unfold flat at this
      rw [show (i + 1) * 14 + j - 14 = i * 14 + j from by omega, this]
      simp
theorem flat_snoc (L : List Quad) (r : Quad) : flat (L ++ [r]) = flat L ++ rec4 r := by simp [flat]

def kf (L : List Quad) (i : Nat) : Int := (L.getD i (0, 0, 0, 0)).1
def pf (L : List Quad) (i : Nat) : Int := (L.getD i (0, 0, 0, 0)).2.2.1
def nf (L : List Quad) (i : Nat) : Int := (L.getD i (0, 0, 0, 0)).2.2.2

theorem isLog_of_own {w : World} {p : Addr} {base : Nat} {v : Value} {L : List Quad} (hp : w.cell? p = some v) (ho : w.ownsRow base 55 14 v L.length (flat L)) : IsLog w p L.length (kf L) (pf L) (nf L) := by
  obtain ⟨A, c, rfl⟩ := own_slice ho
  refine ⟨A, c, hp, fun h0 => ?_⟩
  obtain ⟨g, cap, hv, _, hlt⟩ := ho.form h0
  injection hv with hA _ _
  subst hA
  refine ⟨g, 0, rfl, fun i hi => ?_⟩
  have hc : ∀ j u, j < 14 → (rec4 (L.getD i (0, 0, 0, 0)))[j]? = some u → w.cell? ⟨g, 0 + i * 14 + j, none⟩ = some u := by
    intro j u hj hu
    have h1 := ho.cells (g := g) rfl (i * 14 + j) u (by rw [flat_get L i j hi hj]; exact hu)
    have ha : (⟨g, 0, none⟩ : Addr).add (i * 14 + j) = ⟨g, 0 + i * 14 + j, none⟩ := by
      unfold Addr.add
      split
      · rename_i h; rw [Nat.add_assoc, h]
      · simp
    rwa [ha] at h1
  refine ⟨_, _, _, _, _, _, _, _, _, _, _, _, _, _, _, _, _, _, _, hc 0 _ (by omega) rfl, hc 1 _ (by omega) rfl, hc 2 _ (by omega) rfl, hc 3 _ (by omega) rfl, hc 4 _ (by omega) rfl, hc 5 _ (by omega) rfl, hc 6 _ (by omega) rfl, hc 7 _ (by omega) rfl, hc 8 _ (by omega) rfl, hc 9 _ (by omega) rfl, hc 10 _ (by omega) rfl, hc 11 _ (by omega) rfl, hc 12 _ (by omega) rfl, hc 13 _ (by omega) rfl⟩

def aliveL : List Quad := [(1, 0, 0, 0), (1, 0, 1, 0), (2, 0, 2, 1)]
theorem alive_log (w : World) : IsLog ((w.alloc (.cells (flat aliveL).toArray 55)).alloc (.cells #[.slice (some ⟨w.heap.size, 0, none⟩) 3 3] 26)) ⟨w.heap.size + 1, 0, none⟩ 3 (kf aliveL) (pf aliveL) (nf aliveL) := by
  refine isLog_of_own (L := aliveL) (base := 0) (v := .slice (some ⟨w.heap.size, 0, none⟩) 3 3) ?_ ?_
  · rw [World.cell?_alloc_at _ _ _ _ (by simp)]; rfl
  · refine ⟨rfl, .inr ⟨w.heap.size, 3, (flat aliveL).toArray, rfl, Nat.zero_le _, ?_, by decide, by decide, rfl, rfl⟩⟩
    rw [Below.heap_alloc _ _ _ (by simp)]
    exact heap_alloc_new w _
theorem alive_steps : all (nxt 3 (kf aliveL) (pf aliveL) (nf aliveL)) (max 0 0) 3 = some [1] := by decide
theorem alive_next : all (nxt 3 (kf aliveL) (pf aliveL) (nf aliveL)) 0 2 = some [2, 1] := by decide

set_option maxRecDepth 100000 in
set_option maxHeartbeats 1000000 in
theorem alive_any (w : World) : Calls Try.prog 7 #[] w fun e w' => e = .returned (.bool true) ∧ Below w.heap.size w w' := by
  have hmf : ∀ (fn : Fn) (first cap : Array Value) (w : World), (Instr.makeFunc fn first cap).run Try.prog w = .ok (.func fn first cap) w := fun _ _ _ _ => rfl
  have hl := alive_log w
  have hs := steps_any _ 3 _ _ _ 3 0 _ hl (by omega)
  rw [alive_steps] at hs
  have hb0 : Below w.heap.size w ((w.alloc (.cells (flat aliveL).toArray 55)).alloc (.cells #[.slice (some ⟨w.heap.size, 0, none⟩) 3 3] 26)) := below_al (below_al (Below.refl _ _) _) _
  go_enter Try.func7, Try.ntmps7
  go_wp2_with fail
  refine hs.mono ?_
  rintro e w1 ⟨hb, hB, v, rfl, hown⟩
  have hl1 := hl.below hb
  have hb1 := below_tr hb0 hb
  obtain ⟨A, c, rfl, hi⟩ := ints_of_own hown
  clear hs hl hb0 hb hB hown
  go_wp2_with fail
  refine (next_any _ 3 _ _ _ 2 _ hl1 (by omega)).mono ?_
  rw [alive_next, show headOf (some [2, 1]) = 2 from rfl]
  rintro e w2 ⟨rfl, hb2⟩
  have hi2 := (hi.below hb2).below (below_al (Below.refl _ _) (.cells #[.int .i64 1] 3))
  have hj : Ints (w2.alloc (.cells #[.int .i64 1] 3)) (some ⟨w2.heap.size, 0, none⟩) 1 [1] := by
    refine ⟨rfl, by omega, fun _ => ⟨_, 0, rfl, by simp, fun j hj => ?_⟩⟩
    obtain rfl : j = 0 := by omega
    rw [World.cell?_alloc_at _ _ _ _ rfl]; rfl
  clear hl1
  go_wp2_with (go_at_call 13; refine (sameInts_any _ _ _ _ _ _ _ _ _ hi2 hj).mono ?_; rintro e w3 ⟨rfl, hb3⟩)
  go_ret
  exact ⟨rfl, below_tr (below_al (below_tr hb1 hb2) _) hb3⟩
end Go.Proofs.Ytlhmjmldndoekaa.Undo
