/- The law UndoForward: its walk. -/
import Derived.Test.YtlhmjmldndoekaaUndoLog
import Derived.Deep.RegionHeld3
import Derived.Deep.RegionLaw
import Derived.Deep.AppendLies
namespace Go.Proofs.Ytlhmjmldndoekaa.Undo
open Go.RowKit Go.Proofs.Ytlhmjmldndoekaa.Mem

theorem info_rec : (Try.prog.info? 55).map (fun i => (i.zero, i.size, i.bytes)) = some (some (.agg #[.int .i64 0, .int .i64 0, .int .i64 0, .int .i64 0, .string ⟨#[]⟩, .bool false, .string ⟨#[]⟩, .string ⟨#[]⟩, .int .i64 0, .int .i64 0, .slice none 0 0, .slice none 0 0, .slice none 0 0, .slice none 0 0]), 14, 200) := by kernel_rfl

/-- The log: each record leads to the one ahead of it, but one. -/
def fwd (at_ to_ : Int) (k : Nat) : List Quad := (List.range k).map fun (i : Nat) => (1, 0, if (i : Int) + 1 = at_ then to_ else (i : Int), 0)
theorem fwd_length (a t : Int) (k : Nat) : (fwd a t k).length = k := by simp [fwd]
theorem fwd_succ (a t : Int) (k : Nat) : fwd a t (k + 1) = fwd a t k ++ [(1, 0, if (k : Int) + 1 = a then t else (k : Int), 0)] := by simp [fwd, List.range_succ]

theorem fwd_getD (a t : Int) (N i : Nat) (hi : i < N) : (fwd a t N).getD i (0, 0, 0, 0) = (1, 0, if (i : Int) + 1 = a then t else (i : Int), 0) := by
  simp [fwd, List.getD_eq_getElem?_getD, List.getElem?_map, List.getElem?_range hi]
theorem fwd_nxt (a t : Int) (N i : Nat) (hi : i < N) (hat : a ≤ t) : nxt N (kf (fwd a t N)) (pf (fwd a t N)) (nf (fwd a t N)) ((i : Int) + 1) = if (i : Int) + 1 = a then none else some ((i : Int), true) := by
  have hon : onF (kf (fwd a t N) i) (pf (fwd a t N) i) (nf (fwd a t N) i) = (if (i : Int) + 1 = a then t else (i : Int), true, true) := by
    simp only [kf, pf, nf, fwd_getD a t N i hi, onF, if_true]
  rw [nxt_at hi hon]
  by_cases h : (i : Int) + 1 = a
  · rw [if_pos h, if_pos h, if_neg (by omega)]
  · rw [if_neg h, if_neg h, if_pos ⟨rfl, by omega⟩]
theorem fwd_all {a t : Int} {N : Nat} (h3 : 1 ≤ a) (h4 : a ≤ N) (h5 : a ≤ t) : ∀ (f : Nat) (lsn : Nat), lsn ≤ N → (lsn : Int) = a + f →
    all (nxt N (kf (fwd a t N)) (pf (fwd a t N)) (nf (fwd a t N))) 0 lsn = none ∧ ∃ l, all (nxt N (kf (fwd a t N)) (pf (fwd a t N)) (nf (fwd a t N))) a lsn = some l ∧ (l.length : Int) = lsn - a := by
  intro f
  induction f with
  | zero =>
    intro lsn hN hl
    obtain ⟨i, rfl⟩ : ∃ i, lsn = i + 1 := ⟨lsn - 1, by omega⟩
    refine ⟨all_bad (by omega) ?_, [], all_stop _ _ _ (by omega), by simp; omega⟩
    have := fwd_nxt a t N i (by omega) h5
    rw [if_pos (by omega)] at this
    simpa using this
  | succ f ih =>
    intro lsn hN hl
    obtain ⟨i, rfl⟩ : ∃ i, lsn = i + 1 := ⟨lsn - 1, by omega⟩
    have hx := fwd_nxt a t N i (by omega) h5
    rw [if_neg (by omega)] at hx
    obtain ⟨h0, l, hl1, hl2⟩ := ih i (by omega) (by omega)
    have e : ((i + 1 : Nat) : Int) = (i : Int) + 1 := by omega
    rw [e]
    refine ⟨?_, ((i : Int) + 1) :: l, ?_, by simp; omega⟩
    · rw [all_step (nxt_falls _ _ _ _) (by omega) hx, h0]; rfl
    · rw [all_step (nxt_falls _ _ _ _) (by omega) hx, hl1]; rfl

/-- The log's variable, and its row. -/
def Holds (B : Nat) (w wr : World) (pb : Nat) (L : List Quad) : Prop :=
  ∃ v, wr.heap[pb]? = some (.cells #[v] 26 (0, 0)) ∧ wr.ownsRow (pb + 1) 55 14 v L.length (flat L) ∧ Below B w wr ∧ B ≤ pb

theorem rec4_one (r : Quad) : ∀ u ∈ rec4 r, u.oneCell' = true := by simp [rec4, Value.oneCell']
theorem heap_two (w : World) (o1 o2 : Obj) : ((w.alloc o1).alloc o2).drew.heap[w.heap.size + 1]? = some o2 := by
  have := heap_alloc_new (w.alloc o1) o2
  show ((w.alloc o1).alloc o2).heap[w.heap.size + 1]? = some o2
  simpa using this
theorem row_ne {w : World} {pb : Nat} {e : TypeId} {size n : Nat} {v : Value} {xs : List Value} (h : w.ownsRow (pb + 1) e size v n xs) : some pb ≠ v.ownBlock := fun he => by
  have := own_base h pb he.symm
  omega
/-- The log's variable behind an append. -/
theorem blk_after {wr w2 : World} {pb : Nat} {v : Value} {X : Obj} {e : TypeId} {size n : Nat} {xs : List Value} (h : wr.heap[pb]? = some X) (ho : wr.ownsRow (pb + 1) e size v n xs) {o1 o2 : Obj} (hg : ((wr.alloc o1).alloc o2).drew.grownBy w2 v.ownBlock) :
    w2.heap[pb]? = some X := by
  have hlt : pb < wr.heap.size := by
    rcases Nat.lt_or_ge pb wr.heap.size with h1 | h1
    · exact h1
    · rw [Array.getElem?_eq_none h1] at h; cases h
  rw [hg.block pb (by show pb < ((wr.alloc o1).alloc o2).heap.size; simp; omega) (row_ne ho)]
  show ((wr.alloc o1).alloc o2).heap[pb]? = _
  rw [Below.heap_alloc _ _ _ (by simp; omega), Below.heap_alloc _ _ _ hlt, h]
/-- The new record's own block behind the append. -/
theorem rec_after {wr w2 : World} {pb : Nat} {v : Value} {size n : Nat} {e t : TypeId} {xs : List Value} (ho : wr.ownsRow (pb + 1) e size v n xs) {cs : Array Value} {o2 : Obj} (hg : ((wr.alloc (.cells cs t)).alloc o2).drew.grownBy w2 v.ownBlock) (j : Nat) :
    w2.cell? ⟨wr.heap.size, j, none⟩ = cs[j]? := by
  refine cell_of_row w2 wr.heap.size j cs t (0, 0) ?_
  have hne : some wr.heap.size ≠ v.ownBlock := fun he => by
    have := own_lt ho _ he.symm
    omega
  rw [hg.block wr.heap.size (by show wr.heap.size < ((wr.alloc (.cells cs t)).alloc o2).heap.size; simp; omega) hne]
  show ((wr.alloc (.cells cs t)).alloc o2).heap[wr.heap.size]? = _
  rw [Below.heap_alloc _ _ _ (by simp)]
  exact heap_alloc_new wr _
/-- One record more. -/
theorem holds_more {B : Nat} {w wr w2 : World} {pb : Nat} {v v' : Value} {L : List Quad} {r : Quad} (hcell : wr.heap[pb]? = some (.cells #[v] 26 (0, 0))) (ho : wr.ownsRow (pb + 1) 55 14 v L.length (flat L)) (hb : Below B w wr) (hB : B ≤ pb)
    {o1 o2 : Obj} (hg : ((wr.alloc o1).alloc o2).drew.grownBy w2 v.ownBlock) (ho2 : w2.ownsRow (pb + 1) 55 14 v' (L.length + 1) (flat L ++ rec4 r)) :
    Holds B w (w2.setCell ⟨pb, 0, none⟩ v') pb (L ++ [r]) := by
  have hlt : pb < wr.heap.size := by
    rcases Nat.lt_or_ge pb wr.heap.size with h1 | h1
    · exact h1
    · rw [Array.getElem?_eq_none h1] at hcell; cases hcell
  refine ⟨v', ?_, ?_, ?_, hB⟩
  · exact one_setCell (blk_after hcell ho hg)
  · have := ownsRow_setCell_below ho2 (a := ⟨pb, 0, none⟩) (Nat.lt_succ_self pb) v'
    rw [flat_snoc]
    simpa using this
  · have h1 : Below B w ((wr.alloc o1).alloc o2).drew := ((hb.alloc (by omega) _).alloc (by simp; omega) _).drew
    refine (h1.grown hg (by show B ≤ ((wr.alloc o1).alloc o2).heap.size; simp; omega) (fun k hk => ?_)).setCell (p := ⟨pb, 0, none⟩) hB _
    have := own_base ho k hk
    omega

set_option maxRecDepth 100000 in
set_option maxHeartbeats 4000000 in
theorem forward_yes (n a t : Int) (w : World) (h1 : 1 ≤ n) (h2 : n ≤ 20) (h3 : 1 ≤ a) (h4 : a ≤ n) (h5 : a ≤ t) (h6 : t ≤ n) :
    Calls Try.prog 6 #[.int .i64 n, .int .i64 a, .int .i64 t] w fun e w' => e = .returned (.bool true) ∧ Below w.heap.size w w' := by
  have hmf : ∀ (fn : Fn) (first cap : Array Value) (w : World), (Instr.makeFunc fn first cap).run Try.prog w = .ok (.func fn first cap) w := fun _ _ _ _ => rfl
  obtain ⟨i0, hi0, hz0, hz1, hz2⟩ := info_parts info_rec
  have d1 : decide (n < 1) = false := by simp; omega
  have d2 : decide (20 < n) = false := by simp; omega
  have d3 : decide (a < 1) = false := by simp; omega
  have d4 : decide (n < a) = false := by simp; omega
  have d5 : decide (t < a) = false := by simp; omega
  have d6 : decide (n < t) = false := by simp; omega
  obtain ⟨N, rfl⟩ : ∃ N : Nat, n = (N : Int) := ⟨n.toNat, by omega⟩
  go_enter Try.func6, Try.ntmps6
  go_wp2_with (go_at_call 7; refine (alive_any _).mono ?_; rintro e w1 ⟨rfl, hb1⟩)
  clear d1 d2 d3 d4 d5 d6
  go_loopw [8] (fun i wr => ∃ k : Nat, i = .int .i64 ((k : Int) + 1) ∧ k ≤ N ∧ Holds w.heap.size w wr w1.heap.size (fwd a t k)) (fun i _ => (N : Int).toNat + 1 - (intOf i).toNat)
  case atStart =>
    refine ⟨0, rfl, by omega, .slice none 0 0, ?_, World.ownsRow_nil _ _ _ _, below_al hb1 _, hb1.size⟩
    exact heap_alloc_new w1 _
  case round =>
    obtain ⟨k, rfl, hk, v, hcell, hown, hbel, hpb⟩ := hrel
    have Hlen := Lib.hid (fwd_length a t k)
    by_cases hlt : k < N
    · have ck : wr.cell? ⟨w1.heap.size, 0, none⟩ = some v := cell_of_one hcell
      have hpl := lt_of_block hcell
      have ck1 : ∀ o, (wr.alloc o).cell? ⟨w1.heap.size, 0, none⟩ = some v := fun o => (World.cell?_alloc_lt _ _ _ hpl).trans ck
      have ck2 : ∀ o o', ((wr.alloc o).alloc o').cell? ⟨w1.heap.size, 0, none⟩ = some v := fun o o' => (World.cell?_alloc_lt _ _ _ (by simp; omega)).trans (ck1 o)
      by_cases hat : (k : Int) + 1 = a
      · have hat' : (((k : Int) + 1) == a) = true := by simpa using hat
        have Hat := Lib.hid hat
        clear hat
        have ho14 := rec4_one (1, 0, t, 0)
        go_wp2_with fail
        go_region_law (refine step_append_lies _ (by rfl) _ _ _ (by rfl) (w1.heap.size + 1) 55 i0 _ 14 200 Try.underlying22 hi0 hz0 hz1 hz2 rfl (by omega) v _ (flat (fwd a t k)) (by rfl) (((hown.alloc _).alloc _).drew) ⟨wr.heap.size + 1, 0, none⟩ 1 1 (rec4 (1, 0, t, 0)) (by rfl) (by rfl) (World.news_of_block (cs := (rec4 (1, 0, t, 0)).toArray) (t := 55) (fr := (0, 0)) (heap_two wr _ _)) ho14 (by omega) (by rw [Hlen.out]; unfold maxLen; omega) (by rw [Hlen.out]; omega) (by have := lt_of_block hcell; simp; omega) (wr.heap.size + 2) (by simp) ?_; intro gg cap w2 hown2 hgrow hat2 hlt2; have hcl := cell_of_one (blk_after hcell hown hgrow); have hfz := free_of_one (blk_after hcell hown hgrow))
        all_goals go_wp2
        all_goals go_roundw
        all_goals first | (simp [intOf]; done) | (simp [intOf]; omega) | skip
        all_goals exact ⟨k + 1, by go_num, by omega, by rw [fwd_succ, if_pos Hat.out]; exact holds_more hcell hown hbel hpb hgrow hown2⟩
      · have hat' : (((k : Int) + 1) == a) = false := by simpa using hat
        have Hat := Lib.hid hat
        clear hat
        have ho14 := rec4_one (1, 0, (k : Int), 0)
        go_wp2_with fail
        go_region_law (refine step_append_lies _ (by rfl) _ _ _ (by rfl) (w1.heap.size + 1) 55 i0 _ 14 200 Try.underlying22 hi0 hz0 hz1 hz2 rfl (by omega) v _ (flat (fwd a t k)) (by rfl) (((hown.alloc _).alloc _).drew) ⟨wr.heap.size + 1, 0, none⟩ 1 1 (rec4 (1, 0, (k : Int), 0)) (by rfl) (by rfl) (World.news_of_block (cs := (rec4 (1, 0, (k : Int), 0)).toArray) (t := 55) (fr := (0, 0)) (heap_two wr _ _)) ho14 (by omega) (by rw [Hlen.out]; unfold maxLen; omega) (by rw [Hlen.out]; omega) (by have := lt_of_block hcell; simp; omega) (wr.heap.size + 2) (by simp) ?_; intro gg cap w2 hown2 hgrow hat2 hlt2; have hcl := cell_of_one (blk_after hcell hown hgrow); have hfz := free_of_one (blk_after hcell hown hgrow))
        all_goals go_wp2
        all_goals go_roundw
        all_goals first | (simp [intOf]; done) | (simp [intOf]; omega) | skip
        all_goals exact ⟨k + 1, by go_num, by omega, by rw [fwd_succ, if_neg Hat.out]; exact holds_more hcell hown hbel hpb hgrow hown2⟩
    · obtain rfl : k = N := by omega
      have hl : IsLog wr ⟨w1.heap.size, 0, none⟩ (fwd a t k).length (kf (fwd a t k)) (pf (fwd a t k)) (nf (fwd a t k)) := isLog_of_own (cell_of_one hcell) hown
      rw [fwd_length] at hl
      obtain ⟨hn0, l, hsome, hll⟩ := fwd_all (a := a) (t := t) (N := k) h3 h4 h5 (k - a.toNat) k (by omega) (by omega)
      have s1 := steps_any _ k _ _ _ k 0 _ hl (by omega)
      rw [show max (0 : Int) 0 = 0 from rfl, hn0] at s1
      have hl' := hl.below (Below.refl _ _)
      clear hcell hown
      go_wp2_with fail
      refine s1.mono ?_
      rintro e w2 ⟨hb2, hB2, rfl⟩
      have s2 := next_any _ k _ _ _ k _ (hl.below hb2) (by omega)
      rw [hn0] at s2
      go_wp2_with fail
      refine s2.mono ?_
      rintro e w3 ⟨rfl, hb3⟩
      have s3 := steps_any _ k _ _ _ k a _ ((hl.below hb2).below hb3) (by omega)
      rw [show max a 0 = a from by omega, hsome] at s3
      clear s1 s2 hl hl'
      go_wp2_with fail
      refine s3.mono ?_
      rintro e w4 ⟨hb4, hB4, v4, rfl, hown4⟩
      obtain ⟨A4, c4, rfl, _⟩ := ints_of_own hown4
      have hll' : ((l.length : Int) == (k : Int) - a) = true := by simpa using hll
      clear s3 hown4 hsome hll
      go_wp2_with fail
      go_ret
      exact ⟨rfl, below_base hbel hbel.size (below_tr hb2 (below_tr hb3 hb4))⟩

/-- Where the law does not speak it is true by the first call. -/
theorem forward_no (n a t : Int) (w : World) (h : ¬ (1 ≤ n ∧ n ≤ 20 ∧ 1 ≤ a ∧ a ≤ n ∧ a ≤ t ∧ t ≤ n)) :
    Calls Try.prog 6 #[.int .i64 n, .int .i64 a, .int .i64 t] w fun e w' => e = .returned (.bool true) ∧ Below w.heap.size w w' := by
  rcases (show n < 1 ∨ 1 ≤ n ∧ 20 < n ∨ 1 ≤ n ∧ n ≤ 20 ∧ a < 1 ∨ 1 ≤ n ∧ n ≤ 20 ∧ 1 ≤ a ∧ n < a ∨ 1 ≤ n ∧ n ≤ 20 ∧ 1 ≤ a ∧ a ≤ n ∧ t < a ∨ 1 ≤ n ∧ n ≤ 20 ∧ 1 ≤ a ∧ a ≤ n ∧ a ≤ t ∧ n < t from by omega) with h | ⟨h1, h⟩ | ⟨h1, h2, h⟩ | ⟨h1, h2, h3, h⟩ | ⟨h1, h2, h3, h4, h⟩ | ⟨h1, h2, h3, h4, h5, h⟩
  all_goals
    go_enter Try.func6, Try.ntmps6
    go_wp2_with (go_at_call 7; refine (alive_any _).mono ?_; rintro e w1 ⟨rfl, hb1⟩)
    go_ret
    exact ⟨rfl, hb1⟩

theorem forward_any (n a t : Int) (w : World) :
    Calls Try.prog 6 #[.int .i64 n, .int .i64 a, .int .i64 t] w fun e w' => e = .returned (.bool true) ∧ Below w.heap.size w w' := by
  by_cases h : 1 ≤ n ∧ n ≤ 20 ∧ 1 ≤ a ∧ a ≤ n ∧ a ≤ t ∧ t ≤ n
  · exact forward_yes n a t w h.1 h.2.1 h.2.2.1 h.2.2.2.1 h.2.2.2.2.1 h.2.2.2.2.2
  · exact forward_no n a t w h
end Go.Proofs.Ytlhmjmldndoekaa.Undo
