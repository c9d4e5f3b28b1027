/- The contract of undo.Steps over a log whose records lie in a row. -/
import Derived.Test.YtlhmjmldndoekaaUndoAt
import Derived.Test.YtlhmjmldndoekaaUndoOn
import Derived.Test.YtlhmjmldndoekaaMem
namespace Go.Proofs.Ytlhmjmldndoekaa.Undo
open Go.RowKit Go.Proofs.Ytlhmjmldndoekaa.Mem

/-- A function value is not nil. -/
theorem func_not_nil (f : Fn) (a b : Array Value) (w : World) : (binOp BinOp.eql 58 (.func f a b) .nilFunc).run Try.prog w = .ok (.bool false) w := by kernel_rfl
theorem info_int : (Try.prog.info? 3).map (fun i => (i.zero, i.size, i.bytes)) = some (some (.int .i64 0), 1, 8) := by kernel_rfl

/-- A log: what p points to holds len records, of these kinds, leading there. -/
def IsLog (w : World) (p : Addr) (len : Nat) (K P N : Nat → Int) : Prop :=
  ∃ A c, w.cell? p = some (.slice A len c) ∧ (0 < len → ∃ b off, A = some ⟨b, off, none⟩ ∧ ∀ i, i < len → RecAt w b off i (K i) (P i) (N i))

theorem IsLog.below {w w' : World} {p : Addr} {len : Nat} {K P N : Nat → Int} (h : IsLog w p len K P N) (hb : Below w.heap.size w w') : IsLog w' p len K P N := by
  obtain ⟨A, c, hc, hr⟩ := h
  refine ⟨A, c, (hb.cell (World.block_lt_of_cell? w _ hc)).trans hc, fun h0 => ?_⟩
  obtain ⟨b, off, hA, hi⟩ := hr h0
  exact ⟨b, off, hA, fun i hl => (hi i hl).below hb⟩

/-- The relation of the loop: what is gathered, and what is still to come. -/
def StepsRel (B : Nat) (w : World) (nx : Int → Option (Int × Bool)) (len : Nat) (m last : Int) (v i : Value) (wr : World) : Prop :=
  ∃ (lsn : Int) (acc : List Int), i = .int .i64 lsn ∧ lsn ≤ last ∧ wr.ownsRow B 3 1 v acc.length (ints acc) ∧ Below B w wr ∧ B ≤ wr.heap.size ∧
    all nx m last = (all nx m lsn).map (acc ++ ·) ∧ (acc = [] ∨ (acc.length : Int) + lsn ≤ len)

def StepsPost (B : Nat) (w : World) (r : Option (List Int)) (e : Ending) (w' : World) : Prop :=
  Below B w w' ∧ B ≤ w'.heap.size ∧ match r with
    | some l => ∃ v, e = .returned (.tuple #[v, .bool true]) ∧ w'.ownsRow B 3 1 v l.length (ints l)
    | none => e = .returned (.tuple #[.slice none 0 0, .bool false])

theorem post_none {B : Nat} {w wr w' : World} {nx : Int → Option (Int × Bool)} {m last lsn : Int} {acc : List Int} (h : all nx m last = (all nx m lsn).map (acc ++ ·)) (hn : all nx m lsn = none)
    (hb : Below B w wr) (hB : B ≤ wr.heap.size) (hb' : Below wr.heap.size wr w') : StepsPost B w (all nx m last) (.returned (.tuple #[.slice none 0 0, .bool false])) w' := by
  refine ⟨below_base hb hB hb', Nat.le_trans hB hb'.size, ?_⟩
  rw [h, hn]
  rfl
theorem post_some {B : Nat} {w wr : World} {nx : Int → Option (Int × Bool)} {m last lsn : Int} {acc : List Int} {v : Value} (h : all nx m last = (all nx m lsn).map (acc ++ ·)) (hn : all nx m lsn = some [])
    (hb : Below B w wr) (hB : B ≤ wr.heap.size) (ho : wr.ownsRow B 3 1 v acc.length (ints acc)) : StepsPost B w (all nx m last) (.returned (.tuple #[v, .bool true])) wr := by
  refine ⟨hb, hB, ?_⟩
  rw [h, hn]
  exact ⟨v, rfl, by simpa using ho⟩
theorem nxt_at {len : Nat} {K P N : Nat → Int} {i : Nat} (hi : i < len) {q : Int} {s y : Bool} (hon : onF (K i) (P i) (N i) = (q, s, y)) :
    nxt len K P N ((i : Int) + 1) = if y = true ∧ q < (i : Int) + 1 then some (q, s) else none := by
  unfold nxt
  have e : ((i : Int) + 1 - 1).toNat = i := by omega
  rw [if_pos (by omega), e, hon]
theorem nxt_out {len : Nat} {K P N : Nat → Int} {i : Nat} (hi : ¬ i < len) : nxt len K P N ((i : Int) + 1) = none := by
  unfold nxt
  rw [if_neg (by omega)]
theorem rel_on {B : Nat} {w wr w' : World} {len : Nat} {K P N : Nat → Int} {m last : Int} {i : Nat} {q : Int} {acc : List Int} {v : Value} (hi : i < len)
    (hm : m < (i : Int) + 1) (hle : (i : Int) + 1 ≤ last) (hq : q < (i : Int) + 1) (hon : onF (K i) (P i) (N i) = (q, false, true)) (ho : wr.ownsRow B 3 1 v acc.length (ints acc)) (hb : Below B w wr) (hB : B ≤ wr.heap.size)
    (h : all (nxt len K P N) m last = (all (nxt len K P N) m ((i : Int) + 1)).map (acc ++ ·)) (hc : acc = [] ∨ (acc.length : Int) + ((i : Int) + 1) ≤ len) (hb' : Below wr.heap.size wr w') :
    StepsRel B w (nxt len K P N) len m last v (.int .i64 q) w' := by
  refine ⟨q, acc, rfl, by omega, own_below ho hb', below_base hb hB hb', Nat.le_trans hB hb'.size, ?_, ?_⟩
  · rw [h, all_step (nxt_falls len K P N) hm (by rw [nxt_at hi hon, if_pos ⟨rfl, hq⟩])]
    simp
  · rcases hc with hc | hc
    · exact .inl hc
    · right; omega
theorem rel_step {B : Nat} {w wr w' : World} {len : Nat} {K P N : Nat → Int} {m last : Int} {i : Nat} {q : Int} {acc : List Int} {v v' : Value} (hi : i < len)
    (hm : m < (i : Int) + 1) (hle : (i : Int) + 1 ≤ last) (hq : q < (i : Int) + 1) (hon : onF (K i) (P i) (N i) = (q, true, true)) (ho : wr.ownsRow B 3 1 v acc.length (ints acc)) (hb : Below B w wr) (hB : B ≤ wr.heap.size)
    (h : all (nxt len K P N) m last = (all (nxt len K P N) m ((i : Int) + 1)).map (acc ++ ·)) (hc : acc = [] ∨ (acc.length : Int) + ((i : Int) + 1) ≤ len)
    {a : World} (hb' : Below wr.heap.size wr a) (hg : a.grownBy w' v.ownBlock) (ho' : w'.ownsRow B 3 1 v' (acc.length + 1) (ints acc ++ [.int .i64 ((i : Int) + 1)])) :
    StepsRel B w (nxt len K P N) len m last v' (.int .i64 q) w' := by
  refine ⟨q, acc ++ [(i : Int) + 1], rfl, by omega, by simpa [ints] using ho', below_grown (below_base hb hB hb') (Nat.le_trans hB hb'.size) ho hg, Nat.le_trans (Nat.le_trans hB hb'.size) hg.size, ?_, ?_⟩
  · rw [h, all_step (nxt_falls len K P N) hm (by rw [nxt_at hi hon, if_pos ⟨rfl, hq⟩])]
    simp [Function.comp_def]
  · right
    simp
    rcases hc with rfl | hc
    · simp; omega
    · omega

set_option maxRecDepth 100000 in
set_option maxHeartbeats 4000000 in
theorem steps_any (p : Addr) (len : Nat) (K P N : Nat → Int) (last down : Int) (w : World) (hlog : IsLog w p len K P N) (hl : len ≤ 1000000) :
    Calls Try.prog 8 #[.func (.func 9) #[.pointer (some p)] #[], .int .i64 last, .int .i64 down] w (StepsPost w.heap.size w (all (nxt len K P N) (max down 0) last)) := by
  have hnf := func_not_nil
  obtain ⟨i0, hi, hz0, hz1, hz2⟩ := info_parts info_int
  go_enter Try.func8, Try.ntmps8
  go_wp2
  go_loopw [8, 9] (fun v i wr => StepsRel w.heap.size w (nxt len K P N) len (max down 0) last v i wr) (fun _ i _ => (intOf i).toNat)
  case atStart => exact ⟨last, [], rfl, Int.le_refl _, World.ownsRow_nil _ _ _ _, Below.refl _ _, Nat.le_refl _, by simp, .inl rfl⟩
  case round =>
    obtain ⟨lsn, acc, rfl, hle, hown, hbel, hsz, hall, hcnt⟩ := hrel
    have Hall := Lib.hid hall
    have Hcnt := Lib.hid hcnt
    clear hall hcnt
    have hlg := hlog.below hbel
    by_cases hm : (if down < 0 then 0 else down) < lsn
    · have hm' : max down 0 < lsn := by split at hm <;> omega
      have h0 : 0 < lsn := by omega
      obtain ⟨i, rfl⟩ : ∃ i : Nat, lsn = (i : Int) + 1 := ⟨(lsn - 1).toNat, by omega⟩
      by_cases hin : i < len
      · obtain ⟨A, c, hc, hr⟩ := hlg
        obtain ⟨b, off, rfl, hrec⟩ := hr (by omega)
        clear hr
        obtain ⟨q, s, y, hon⟩ : ∃ q s y, onF (K i) (P i) (N i) = (q, s, y) := ⟨_, _, _, rfl⟩
        have hon1 := fun tx c4 c5 c6 c7 c8 c9 c10 c11 c12 c13 (w : World) => on_any (K i) tx (P i) (N i) c4 c5 c6 c7 c8 c9 c10 c11 c12 c13 w
        simp only [hon] at hon1
        have Hon := Lib.hid hon
        clear hon
        cases y
        · go_wp2_with (first | (go_at_call 9; refine (at_in p b off len c i wr (K i) (P i) (N i) hc hin hl (hrec i hin)).mono ?_; rintro e w1 ⟨v, ⟨tx, s4, b5, s6, s7, x8, x9, a10, n10, m10, a11, n11, m11, a12, n12, m12, a13, n13, m13, rfl⟩, rfl, hb1⟩) | (go_at_call 15; refine (hon1 _ _ _ _ _ _ _ _ _ _ _ _).mono ?_; rintro e w2 ⟨rfl, hb2⟩))
          all_goals go_ret2
          all_goals exact post_none Hall.out (all_bad hm' (by rw [nxt_at hin Hon.out, if_neg (by simp)])) hbel hsz (below_tr (below_al hb1 _) hb2)
        · by_cases hq : q < (i : Int) + 1
          · cases s
            · go_wp2_with (first | (go_at_call 9; refine (at_in p b off len c i wr (K i) (P i) (N i) hc hin hl (hrec i hin)).mono ?_; rintro e w1 ⟨v, ⟨tx, s4, b5, s6, s7, x8, x9, a10, n10, m10, a11, n11, m11, a12, n12, m12, a13, n13, m13, rfl⟩, rfl, hb1⟩) | (go_at_call 15; refine (hon1 _ _ _ _ _ _ _ _ _ _ _ _).mono ?_; rintro e w2 ⟨rfl, hb2⟩))
              all_goals go_roundw
              all_goals first | exact rel_on hin hm' hle hq Hon.out hown hbel hsz Hall.out Hcnt.out (below_tr (below_al hb1 _) hb2) | (simp [intOf]; omega)
            · have hal : acc.length ≤ len := by rcases Hcnt.out with h | h; (subst h; simp); omega
              go_wp2_with (first
                | (go_at_call 9; refine (at_in p b off len c i wr (K i) (P i) (N i) hc hin hl (hrec i hin)).mono ?_; rintro e w1 ⟨v, ⟨tx, s4, b5, s6, s7, x8, x9, a10, n10, m10, a11, n11, m11, a12, n12, m12, a13, n13, m13, rfl⟩, rfl, hb1⟩)
                | (go_at_call 15; refine (hon1 _ _ _ _ _ _ _ _ _ _ _ _).mono ?_; rintro e w2 ⟨rfl, hb2⟩)
                | (at_builtin; refine wpList_append_own _ rfl (.tmp 46) (.tmp 48) _ rfl w.heap.size 3 i0 (.int .i64 0) 1 8 Try.underlying27 hi hz0 hz1 hz2 rfl (by decide) _ acc.length (ints acc) rfl ((own_below hown (below_tr (below_al hb1 _) hb2)).alloc _) ⟨w2.heap.size, 0, none⟩ 1 1 [.int .i64 ((i : Int) + 1)] rfl rfl (cells_one _ _ _) (by intro u hu; simp at hu; subst hu; rfl) (by unfold maxLen; omega) (by omega) (by have := hb2.size; have := hb1.size; simp at *; omega) ?_; intro v' w3 hown' hgrow _))
              all_goals go_roundw
              all_goals first | exact rel_step hin hm' hle hq Hon.out hown hbel hsz Hall.out Hcnt.out (below_al (below_tr (below_al hb1 _) hb2) _) hgrow hown' | (simp [intOf]; omega)
          · go_wp2_with (first | (go_at_call 9; refine (at_in p b off len c i wr (K i) (P i) (N i) hc hin hl (hrec i hin)).mono ?_; rintro e w1 ⟨v, ⟨tx, s4, b5, s6, s7, x8, x9, a10, n10, m10, a11, n11, m11, a12, n12, m12, a13, n13, m13, rfl⟩, rfl, hb1⟩) | (go_at_call 15; refine (hon1 _ _ _ _ _ _ _ _ _ _ _ _).mono ?_; rintro e w2 ⟨rfl, hb2⟩))
            all_goals go_ret2
            all_goals exact post_none Hall.out (all_bad hm' (by rw [nxt_at hin Hon.out, if_neg (by omega)])) hbel hsz (below_tr (below_al hb1 _) hb2)
      · obtain ⟨A, c, hc, hr⟩ := hlg
        clear hr
        go_wp2_with (first | (go_at_call 9; refine (at_out p A len c ((i : Int) + 1) wr hc (by omega)).mono ?_; rintro e w1 ⟨v, ⟨tx, s4, b5, s6, s7, x8, x9, a10, n10, m10, a11, n11, m11, a12, n12, m12, a13, n13, m13, rfl⟩, rfl, hb1⟩) | (go_at_call 15; refine (on_any 0 _ 0 0 _ _ _ _ _ _ _ _ _ _ _).mono ?_; rintro e w2 ⟨rfl, hb2⟩))
        all_goals go_ret2
        all_goals exact post_none Hall.out (all_bad hm' (nxt_out hin)) hbel hsz (below_tr (below_al hb1 _) hb2)
    · go_wp2_with fail
      all_goals go_ret2
      all_goals exact post_some Hall.out (all_stop _ _ _ (by split at hm <;> omega)) hbel hsz hown
end Go.Proofs.Ytlhmjmldndoekaa.Undo
