/- The law UndoOnce: its walk. -/
import Derived.Test.YtlhmjmldndoekaaUndoForward
import Derived.BigRegion
namespace Go.Proofs.Ytlhmjmldndoekaa.Undo
open Go.RowKit Go.Proofs.Ytlhmjmldndoekaa.Mem

/-- The log: n updates, then j of them undone, the last first. -/
def once (n j : Nat) : List Quad := (List.range n).map (fun (i : Nat) => ((1, 1, (i : Int), 0) : Quad)) ++ (List.range j).map (fun (i : Nat) => ((2, 1, (n : Int) + i, (n : Int) - 1 - i) : Quad))
theorem once_length (n j : Nat) : (once n j).length = n + j := by simp [once]
theorem once_zero (n : Nat) : once (n + 1) 0 = once n 0 ++ [(1, 1, (n : Int), 0)] := by simp [once, List.range_succ]
theorem once_succ (n j : Nat) : once n (j + 1) = once n j ++ [(2, 1, (n : Int) + j, (n : Int) - 1 - j)] := by simp [once, List.range_succ]
theorem once_lt (n j i : Nat) (h : i < n) : (once n j).getD i (0, 0, 0, 0) = (1, 1, (i : Int), 0) := by
  simp [once, List.getD_eq_getElem?_getD, List.getElem?_append_left, h]
theorem once_ge (n j i : Nat) (h : i < j) : (once n j).getD (n + i) (0, 0, 0, 0) = (2, 1, (n : Int) + i, (n : Int) - 1 - i) := by
  simp [once, List.getD_eq_getElem?_getD, h]

/-- The numbers from m down to 1. -/
def dn (m : Nat) : List Int := (List.range m).map fun (i : Nat) => (m : Int) - i
theorem dn_length (m : Nat) : (dn m).length = m := by simp [dn]
theorem dn_succ (m : Nat) : dn (m + 1) = ((m : Int) + 1) :: dn m := by
  unfold dn
  rw [List.range_succ_eq_map, List.map_cons, List.map_map]
  congr 1
  refine List.map_congr_left fun i _ => ?_
  simp only [Function.comp_apply]
  omega
theorem dn_getD (m i : Nat) (h : i < m) : (dn m).getD i 0 = (m : Int) - i := by simp [dn, List.getD_eq_getElem?_getD, h]
theorem dn_drop (m k : Nat) (h : k ≤ m) : (dn m).drop k = dn (m - k) := by
  refine List.ext_getElem (by simp [dn_length]) fun i h1 h2 => ?_
  simp [dn]
  omega

abbrev onx (n j : Nat) := nxt (n + j) (kf (once n j)) (pf (once n j)) (nf (once n j))
theorem once_nx_lt (n j i : Nat) (h : i < n) : onx n j ((i : Int) + 1) = some ((i : Int), true) := by
  have hon : onF (kf (once n j) i) (pf (once n j) i) (nf (once n j) i) = ((i : Int), true, true) := by
    simp only [kf, pf, nf, once_lt n j i h, onF, if_true]
  rw [onx, nxt_at (by omega) hon, if_pos ⟨rfl, by omega⟩]
theorem once_nx_ge (n j i : Nat) (h : i < j) : onx n j ((n : Int) + i + 1) = some ((n : Int) - 1 - i, false) := by
  have hon : onF (kf (once n j) (n + i)) (pf (once n j) (n + i)) (nf (once n j) (n + i)) = ((n : Int) - 1 - i, false, true) := by
    simp only [kf, pf, nf, once_ge n j i h, onF]
    rfl
  have := nxt_at (len := n + j) (i := n + i) (by omega) hon
  rw [if_pos ⟨rfl, by omega⟩] at this
  rw [onx, show (n : Int) + i + 1 = ((n + i : Nat) : Int) + 1 from by omega, this]
theorem once_all_lt (n j : Nat) : ∀ m : Nat, m ≤ n → all (onx n j) 0 m = some (dn m) := by
  intro m
  induction m with
  | zero => intro _; rw [all_stop _ _ _ (by omega)]; rfl
  | succ m ih =>
    intro h
    have e : ((m + 1 : Nat) : Int) = (m : Int) + 1 := by omega
    rw [e, all_step (nxt_falls _ _ _ _) (by omega) (once_nx_lt n j m (by omega)), ih (by omega), dn_succ]
    rfl
theorem once_all (n j : Nat) (h : j ≤ n) : all (onx n j) 0 ((n : Int) + j) = some (dn (n - j)) := by
  cases j with
  | zero => simpa using once_all_lt n 0 n (Nat.le_refl _)
  | succ j =>
    have e : (n : Int) + ((j + 1 : Nat) : Int) = (n : Int) + j + 1 := by omega
    rw [e, all_step (nxt_falls _ _ _ _) (by omega) (once_nx_ge n (j + 1) j (by omega))]
    rw [show (n : Int) - 1 - j = ((n - (j + 1) : Nat) : Int) from by omega, once_all_lt n (j + 1) _ (by omega)]
    simp
theorem head_dn (m : Nat) : headOf (some (dn m)) = m := by
  cases m with
  | zero => rfl
  | succ m => rw [dn_succ]; simp [headOf]

theorem heap_grown {W w2 : World} {row : Option Nat} {pb : Nat} {X : Obj} (h : W.heap[pb]? = some X) (hg : W.grownBy w2 row) (hne : some pb ≠ row) : w2.heap[pb]? = some X := by rw [hg.block pb (lt_of_block h) hne, h]
theorem heap_al {W : World} {pb : Nat} {X : Obj} (h : W.heap[pb]? = some X) (o : Obj) : (W.alloc o).heap[pb]? = some X := by rw [Below.heap_alloc _ _ _ (lt_of_block h), h]
/-- One record more, behind whatever blocks. -/
theorem holds_more' {B : Nat} {w A w2 : World} {pb : Nat} {v v' : Value} {L : List Quad} {r : Quad} (hcell : A.heap[pb]? = some (.cells #[v] 26 (0, 0))) {wo : World} (ho : wo.ownsRow (pb + 1) 55 14 v L.length (flat L)) (hb : Below B w A) (hB : B ≤ pb)
    (hg : A.grownBy w2 v.ownBlock) (ho2 : w2.ownsRow (pb + 1) 55 14 v' (L.length + 1) (flat L ++ rec4 r)) :
    Holds B w (w2.setCell ⟨pb, 0, none⟩ v') pb (L ++ [r]) := by
  have hlt := lt_of_block hcell
  refine ⟨v', one_setCell (heap_grown hcell hg (row_ne ho)), ?_, ?_, hB⟩
  · have := ownsRow_setCell_below ho2 (a := ⟨pb, 0, none⟩) (Nat.lt_succ_self pb) v'
    rw [flat_snoc]
    simpa using this
  · refine (hb.grown hg (by omega) (fun k hk => ?_)).setCell (p := ⟨pb, 0, none⟩) hB _
    have := own_base ho k hk
    omega

theorem Ints_grown {w w' : World} {b off n : Nat} {xs : List Int} {row : Option Nat} (h : Ints w (some ⟨b, off, none⟩) n xs) (hg : w.grownBy w' row) (hne : some b ≠ row) : Ints w' (some ⟨b, off, none⟩) n xs :=
  ⟨h.1, h.2.1, fun h0 => by
    obtain ⟨b', off', hA, hlt, hc⟩ := h.2.2 h0
    injection hA with hA
    injection hA with hA1 hA2
    subst hA1
    subst hA2
    exact ⟨b, off, rfl, Nat.lt_of_lt_of_le hlt hg.size, fun j hj => (World.cell?_of_block (hg.block b hlt hne)).trans (hc j hj)⟩⟩

/-- The log's variable and row, and the list of steps beside them. -/
def Holds2 (B : Nat) (w wr : World) (pb gs n : Nat) (L : List Quad) : Prop :=
  ∃ v, wr.heap[pb]? = some (.cells #[v] 26 (0, 0)) ∧ wr.ownsRow (pb + 1) 55 14 v L.length (flat L) ∧ Below B w wr ∧ B ≤ pb ∧ some gs ≠ v.ownBlock ∧ pb < gs ∧ gs < wr.heap.size ∧ Ints wr (some ⟨gs, 0, none⟩) n (dn n)
theorem holds2_more {B : Nat} {w A w2 : World} {pb gs n N gg cap H : Nat} {v : Value} {L : List Quad} {r : Quad} (hcell : A.heap[pb]? = some (.cells #[v] 26 (0, 0))) {wo : World} (hN : N = L.length) (ho : wo.ownsRow (pb + 1) 55 14 v N (flat L)) (hb : Below B w A) (hB : B ≤ pb)
    (hne : some gs ≠ v.ownBlock) (hpg : pb < gs) (hgl : gs < A.heap.size) (hi : Ints A (some ⟨gs, 0, none⟩) n (dn n))
    (hg : A.grownBy w2 v.ownBlock) (ho2 : w2.ownsRow (pb + 1) 55 14 (.slice (some ⟨gg, 0, none⟩) (N + 1) cap) (N + 1) (flat L ++ rec4 r)) (hat : v.ownBlock = some gg ∨ gg = H) (hH : A.heap.size ≤ H) :
    Holds2 B w (w2.setCell ⟨pb, 0, none⟩ (.slice (some ⟨gg, 0, none⟩) (N + 1) cap)) pb gs n (L ++ [r]) := by
  subst hN
  obtain ⟨v', h1, h2, h3, h4⟩ := holds_more' hcell ho hb hB hg ho2
  have e := one_setCell (u := .slice (some ⟨gg, 0, none⟩) (L.length + 1) cap) (heap_grown hcell hg (row_ne ho))
  rw [e] at h1
  injection h1 with h1
  injection h1 with h1 _ _
  obtain rfl : .slice (some ⟨gg, 0, none⟩) (L.length + 1) cap = v' := by simpa using h1
  refine ⟨_, e, h2, h3, h4, ?_, hpg, by simpa using Nat.lt_of_lt_of_le hgl hg.size, ?_⟩
  · intro h
    have h : gs = gg := by simpa [Value.ownBlock] using h
    subst h
    rcases hat with h | h
    · exact hne h.symm
    · omega
  · have h5 := Ints_grown hi hg hne
    refine ⟨h5.1, h5.2.1, fun h0 => ?_⟩
    obtain ⟨b', off', hA, hlt, hc⟩ := h5.2.2 h0
    injection hA with hA
    injection hA with hA1 hA2
    subst hA1
    subst hA2
    refine ⟨gs, 0, rfl, by simpa using hlt, fun j hj => ?_⟩
    rw [World.cell?_setCell_other _ _ _ _ (fun e => by injection e with e1; omega)]
    exact hc j hj

theorem holds2_al {B : Nat} {w wr w2 : World} {pb gs n N gg cap : Nat} {v : Value} {L : List Quad} {r : Quad} (hcell : wr.heap[pb]? = some (.cells #[v] 26 (0, 0))) (hN : N = L.length) (ho : wr.ownsRow (pb + 1) 55 14 v N (flat L)) (hb : Below B w wr) (hB : B ≤ pb)
    (hne : some gs ≠ v.ownBlock) (hpg : pb < gs) (hgl : gs < wr.heap.size) (hi : Ints wr (some ⟨gs, 0, none⟩) n (dn n)) {o : Obj}
    (hg : (wr.alloc o).drew.grownBy w2 v.ownBlock) (ho2 : w2.ownsRow (pb + 1) 55 14 (.slice (some ⟨gg, 0, none⟩) (N + 1) cap) (N + 1) (flat L ++ rec4 r)) (hat : v.ownBlock = some gg ∨ gg = wr.heap.size + 1) :
    Holds2 B w (w2.setCell ⟨pb, 0, none⟩ (.slice (some ⟨gg, 0, none⟩) (N + 1) cap)) pb gs n (L ++ [r]) := by
  have hpl := lt_of_block hcell
  refine holds2_more (A := (wr.alloc o).drew) (H := wr.heap.size + 1) (heap_al hcell o) hN ho ((hb.alloc (by omega) _).drew) hB hne hpg ?_ (hi.below (below_al (Below.refl _ _) o).drew) hg ho2 hat ?_
  · show gs < (wr.alloc o).heap.size
    simp; omega
  · show (wr.alloc o).heap.size ≤ _
    simp

set_option maxRecDepth 100000 in
set_option maxHeartbeats 8000000 in
theorem once_yes (n k : Nat) (w : World) (h1 : 1 ≤ n) (h2 : n ≤ 20) (h3 : k ≤ n) :
    Calls Try.prog 4 #[.int .i64 n, .int .i64 k] w fun e w' => e = .returned (.bool true) ∧ Below w.heap.size w w' := by
  have hmf : ∀ (fn : Fn) (first cap : Array Value) (w : World), (Instr.makeFunc fn first cap).run Try.prog w = .ok (.func fn first cap) w := fun _ _ _ _ => rfl
  obtain ⟨i0, hi0, hz0, hz1, hz2⟩ := info_parts info_rec
  have d1 : decide ((n : Int) < 1) = false := by simp; omega
  have d2 : decide (20 < (n : Int)) = false := by simp; omega
  have d3 : decide ((k : Int) < 0) = false := by simp
  have d4 : decide (n < k) = false := by simp; omega
  go_enter Try.func4, Try.ntmps4
  go_wp2_with (go_at_call 7; refine (alive_any _).mono ?_; rintro e w1 ⟨rfl, hb1⟩)
  clear d1 d2 d3 d4
  go_loopw [6] (fun i wr => ∃ m : Nat, i = .int .i64 ((m : Int) + 1) ∧ m ≤ n ∧ Holds w.heap.size w wr w1.heap.size (once m 0)) (fun i _ => n + 1 - (intOf i).toNat)
  case atStart =>
    refine ⟨0, rfl, by omega, .slice none 0 0, ?_, World.ownsRow_nil _ _ _ _, below_al hb1 _, hb1.size⟩
    exact heap_alloc_new w1 _
  case round =>
    obtain ⟨m, rfl, hm, v, hcell, hown, hbel, hpb⟩ := hrel
    have Hlen := Lib.hid (once_length m 0)
    have hpl := lt_of_block hcell
    by_cases hlt : m < n
    · have ck : wr.cell? ⟨w1.heap.size, 0, none⟩ = some v := cell_of_one hcell
      have ho14 := rec4_one (1, 1, (m : Int), 0)
      go_wp2_with (at_builtin; refine wpList_append_lies _ rfl (.tmp 46) (.tmp 50) _ rfl (w1.heap.size + 1) 55 i0 _ 14 200 Try.underlying22 hi0 hz0 hz1 hz2 rfl (by omega) v _ (flat (once m 0)) rfl (hown.alloc _) ⟨wr.heap.size, 0, none⟩ 1 1 (rec4 (1, 1, (m : Int), 0)) rfl rfl (World.news_of_block (cs := (rec4 (1, 1, (m : Int), 0)).toArray) (t := 55) (fr := (0, 0)) (heap_alloc_new wr _)) ho14 (by omega) (by rw [Hlen.out]; unfold maxLen; omega) (by rw [Hlen.out]; omega) (by simp; omega) (wr.heap.size + 1) (by simp) ?_; intro gg cap w2 hown2 hgrow hat2 hlt2; have hfz := free_of_one (heap_grown (heap_al hcell _) hgrow (row_ne hown)); have hcl := cell_of_one (heap_grown (heap_al hcell _) hgrow (row_ne hown)))
      go_wp2
      go_roundw
      case rel => exact ⟨m + 1, by go_num, by omega, by rw [once_zero]; exact holds_more' (heap_al hcell _) hown (hbel.alloc (by omega) _) hpb hgrow hown2⟩
      case measure => simp [intOf]; omega
    · obtain rfl : m = n := by omega
      have hl : IsLog wr ⟨w1.heap.size, 0, none⟩ (once m 0).length (kf (once m 0)) (pf (once m 0)) (nf (once m 0)) := isLog_of_own (cell_of_one hcell) hown
      rw [once_length] at hl
      have s1 := steps_any _ (m + 0) _ _ _ m 0 _ hl (by omega)
      have e1 := once_all m 0 (by omega)
      rw [show (m : Int) + ((0 : Nat) : Int) = m from by simp] at e1
      rw [show max (0 : Int) 0 = 0 from rfl, e1] at s1
      go_wp2_with fail
      refine s1.mono ?_
      rw [Nat.sub_zero]
      rintro e w2 ⟨hb2, hB2, vs, rfl, hown2⟩
      rw [dn_length] at hown2
      obtain ⟨gs, cs, rfl, hgs, hgl⟩ := hown2.form (by omega)
      have hi2 : Ints w2 (some ⟨gs, 0, none⟩) m (dn m) := by
        obtain ⟨A', c', he, hi⟩ := ints_of_own hown2
        injection he with h1 _ _
        subst h1
        exact hi
      have hcs : m ≤ cs := by
        rcases hown2.2 with ⟨h, _⟩ | ⟨_, _, _, h, _, _, h1, _⟩
        · cases h
        · injection h with _ _ h
          omega
      have hn0 : ((m : Int) != m) = false := by simp
      have hneq : some gs ≠ v.ownBlock := fun he => by
        have := own_lt hown _ he.symm
        omega
      have h0 : Holds2 w.heap.size w w2 w1.heap.size gs m (once m 0) := ⟨v, by rw [hb2.block _ hpl]; exact hcell, own_below hown hb2, below_base hbel hbel.size hb2, hpb, hneq, by omega, hgl, hi2⟩
      clear hl s1 e1 hown2 hcell hown hneq hi2
      go_wp2_with fail
      go_loopw [9, 10] (fun l i wr => ∃ j : Nat, i = .int .i64 j ∧ l = .int .i64 ((m : Int) + j) ∧ j ≤ k ∧ Holds2 w.heap.size w wr w1.heap.size gs m (once m j)) (fun _ i _ => k - (intOf i).toNat)
      case atStart => exact ⟨0, rfl, by simp, Nat.zero_le _, h0⟩
      case round =>
        clear h0 hbel hb2 hB2 hgl hpl
        obtain ⟨j, rfl, rfl, hj, v, hcell, hown, hbel, hpb, hneq, hpg, hgl, hi2⟩ := hrel
        obtain ⟨N, hN⟩ : ∃ N, N = (once m j).length := ⟨_, rfl⟩
        rw [← hN] at hown
        have HN := Lib.hid hN
        have HNm : Hid (N = m + j) := by rw [hN, once_length]; rfl
        clear hN
        have hN0 : N ≤ 40 := by have := HNm.out; omega
        by_cases hjk : j < k
        · obtain ⟨q, hq⟩ : ∃ q, m = j + 1 + q := ⟨m - 1 - j, by omega⟩
          have hjm : j < m := by omega
          have hqn : q < N := by have := HNm.out; omega
          obtain ⟨gv, cv, rfl, _, hgv⟩ := hown.form (by omega)
          have cs1 : wr.cell? ⟨gs, j, none⟩ = some (.int .i64 ((q : Int) + 1)) := by
            obtain ⟨b', off', hA, _, hc⟩ := hi2.2.2 (by omega)
            injection hA with hA
            injection hA with hA1 hA2
            subst hA1
            subst hA2
            have := hc j hjm
            rw [dn_getD m j hjm, show (m : Int) - j = (q : Int) + 1 from by omega] at this
            simpa using this
          have cr : wr.cell? ⟨gv, q * 14 + 2, none⟩ = some (.int .i64 q) := by
            have hc := hown.cells (g := gv) rfl (q * 14 + 2) (.int .i64 q) (by rw [flat_get _ q 2 (by have := HN.out; omega) (by omega), once_lt m j q (by omega)]; rfl)
            have ha : (⟨gv, 0, none⟩ : Addr).add (q * 14 + 2) = ⟨gv, q * 14 + 2, none⟩ := by simp [Addr.add]
            rwa [ha] at hc
          have Hq := Lib.hid hq
          have ht : (((q : Int) + 1) != (m : Int) - j) = false := by simp; omega
          have hmj : (m : Int) + j ≤ 40 := by omega
          have ck : wr.cell? ⟨w1.heap.size, 0, none⟩ = some (.slice (some ⟨gv, 0, none⟩) N cv) := cell_of_one hcell
          have hpl := lt_of_block hcell
          have up : ∀ (a : Addr) (u : Value) (o : Obj), wr.cell? a = some u → (wr.alloc o).cell? a = some u := fun a u o h => by rw [World.cell?_alloc_lt wr o a (World.block_lt_of_cell? wr a h)]; exact h
          have ck1 := fun o => up _ _ o ck
          have cs2 := fun o => up _ _ o cs1
          have cr2 := fun o => up _ _ o cr
          have ho14 := rec4_one (2, 1, (m : Int) + j, (q : Int))
          have hrn := row_ne hown
          have hwq : IntKind.i64.wrap (q : Int) = (q : Int) := IntWalk.i64_in _ (by omega)
          have hq0 : (0 : Int) ≤ (q : Int) := by omega
          have hq1 : (q : Int) < (N : Int) := by omega
          clear hq up
          go_wp2_with fail
          go_region_law (refine step_append_lies _ (by rfl) _ _ _ (by rfl) (w1.heap.size + 1) 55 i0 _ 14 200 Try.underlying22 hi0 hz0 hz1 hz2 rfl (by omega) (.slice (some ⟨gv, 0, none⟩) N cv) N (flat (once m j)) (by rfl) ((hown.alloc _).drew) ⟨wr.heap.size, 0, none⟩ 1 1 (rec4 (2, 1, (m : Int) + j, (q : Int))) (by rfl) (by rfl) (World.news_of_block (cs := (rec4 (2, 1, (m : Int) + j, (q : Int))).toArray) (t := 55) (fr := (0, 0)) (heap_alloc_new wr _)) ho14 (by omega) (by unfold maxLen; omega) (by omega) (by simp; omega) (wr.heap.size + 1) (by simp) ?_; intro gg cap w3 hown3 hgrow hat2 hlt3; have hfz := free_of_one (heap_grown (W := (wr.alloc _).drew) (heap_al hcell _) hgrow hrn); have hcl := cell_of_one (heap_grown (W := (wr.alloc _).drew) (heap_al hcell _) hgrow hrn))
          all_goals go_wp2
          all_goals go_roundw
          all_goals first | (simp [intOf]; done) | (simp [intOf]; omega) | skip
          all_goals exact ⟨j + 1, by go_num, by have := HNm.out; simp; omega, by omega, by rw [once_succ, show (m : Int) - 1 - j = (q : Int) from by have := Hq.out; omega]; exact holds2_al hcell HN.out hown hbel hpb hneq hpg hgl hi2 hgrow hown3 hat2⟩
        · obtain rfl : j = k := by omega
          have hl : IsLog wr ⟨w1.heap.size, 0, none⟩ (once m j).length (kf (once m j)) (pf (once m j)) (nf (once m j)) := isLog_of_own (cell_of_one hcell) (by rw [← HN.out]; exact hown)
          rw [once_length] at hl
          have e1 := once_all m j (by omega)
          have s1 := steps_any _ (m + j) _ _ _ ((m : Int) + j) 0 _ hl (by omega)
          rw [show max (0 : Int) 0 = 0 from rfl, e1] at s1
          clear hcell hown hneq
          go_wp2_with fail
          refine s1.mono ?_
          rintro e w2 ⟨hb2, hB2, vr, rfl, hown2⟩
          have s2 := next_any _ (m + j) _ _ _ ((m : Int) + j) _ (hl.below hb2) (by omega)
          rw [e1, head_dn] at s2
          obtain ⟨A, c, rfl, hir⟩ := ints_of_own hown2
          rw [dn_length] at *
          have hnx : (((m - j : Nat) : Int) == (m : Int) - j) = true := by simp; omega
          clear s1 hl hown2
          go_wp2_with fail
          refine s2.mono ?_
          rintro e w3 ⟨rfl, hb3⟩
          clear s2
          have hir3 := hir.below hb3
          have hi3 := (hi2.below hb2).below hb3
          have hcut : Ints w3 (some ⟨gs, j, none⟩) (m - j) (dn (m - j)) := by
            refine ⟨dn_length _, by omega, fun h0 => ⟨gs, j, rfl, ?_, fun x hx => ?_⟩⟩
            · obtain ⟨b', off', hA, hlt', _⟩ := hi3.2.2 (by omega)
              injection hA with hA
              injection hA with hA1 _
              subst hA1
              exact hlt'
            · obtain ⟨b', off', hA, _, hc⟩ := hi3.2.2 (by omega)
              injection hA with hA
              injection hA with hA1 hA2
              subst hA1
              subst hA2
              have := hc (j + x) (by omega)
              rw [dn_getD m (j + x) (by omega)] at this
              rw [dn_getD (m - j) x hx, show (((m - j : Nat) : Int) - x) = (m : Int) - ((j + x : Nat) : Int) from by omega]
              simpa using this
          have hcut0 : m - j = 0 → Ints w3 (some ⟨gs, 0, none⟩) (m - j) (dn (m - j)) := fun h0 => ⟨dn_length _, by omega, fun h => absurd h (by omega)⟩
          clear hir hi2 hi3
          go_wp2_with fail
          all_goals first | (with_reducible refine (sameInts_any _ _ _ _ _ _ _ _ _ hir3 hcut).mono ?_) | (with_reducible refine (sameInts_any _ _ _ _ _ _ _ _ _ hir3 (hcut0 (by omega))).mono ?_)
          all_goals rintro e w4 ⟨rfl, hb4⟩
          all_goals simp only [decide_true]
          all_goals go_wp2_with fail
          all_goals go_ret
          all_goals exact ⟨rfl, below_base hbel hbel.size (below_tr hb2 (below_tr hb3 hb4))⟩

theorem once_no (n k : Int) (w : World) (h : ¬ (1 ≤ n ∧ n ≤ 20 ∧ 0 ≤ k ∧ k ≤ n)) :
    Calls Try.prog 4 #[.int .i64 n, .int .i64 k] w fun e w' => e = .returned (.bool true) ∧ Below w.heap.size w w' := by
  rcases (show n < 1 ∨ 1 ≤ n ∧ 20 < n ∨ 1 ≤ n ∧ n ≤ 20 ∧ k < 0 ∨ 1 ≤ n ∧ n ≤ 20 ∧ 0 ≤ k ∧ n < k from by omega) with h | ⟨h1, h⟩ | ⟨h1, h2, h⟩ | ⟨h1, h2, h3, h⟩
  all_goals
    go_enter Try.func4, Try.ntmps4
    go_wp2_with (go_at_call 7; refine (alive_any _).mono ?_; rintro e w1 ⟨rfl, hb1⟩)
    go_ret
    exact ⟨rfl, hb1⟩

theorem once_any (n k : Int) (w : World) :
    Calls Try.prog 4 #[.int .i64 n, .int .i64 k] w fun e w' => e = .returned (.bool true) ∧ Below w.heap.size w w' := by
  by_cases h : 1 ≤ n ∧ n ≤ 20 ∧ 0 ≤ k ∧ k ≤ n
  · obtain ⟨N, rfl⟩ := Int.eq_ofNat_of_zero_le (show 0 ≤ n from by omega)
    obtain ⟨K, rfl⟩ := Int.eq_ofNat_of_zero_le h.2.2.1
    exact once_yes N K w (by omega) (by omega) (by omega)
  · exact once_no n k w h
end Go.Proofs.Ytlhmjmldndoekaa.Undo
