/- Lemmas of the claim, in their order:
- The store of a new table; a group over a store.
- UndoOther: the walk.
-/
import Derived.Test.YtijhamllnnilbaaGreatDoorU37
import Derived.Test.YtijhamllnnilbaaGreatDoorU22
import Derived.Test.YtijhamllnnilbaaGreatDoorU33
import Derived.Test.YtijhamllnnilbaaGreatDoorU35
import Derived.Test.YtijhamllnnilbaaGreatDoorU31
import Derived.Test.YtijhamllnnilbaaGreatDoorU39
set_option linter.unusedVariables false
set_option linter.unusedSimpArgs false
namespace Go.Proofs.YtijhamllnnilbaaGreatDoor.Ha
open Go.RowKit Go.Proofs.YtijhamllnnilbaaGreatDoor.Mem Go.Proofs.YtijhamllnnilbaaGreatDoor.Pg Go.Proofs.YtijhamllnnilbaaGreatDoor.Kp Go.Proofs.YtijhamllnnilbaaGreatDoor.Sp Go.Proofs.YtijhamllnnilbaaGreatDoor.Gr
set_option linter.unusedSimpArgs false
set_option linter.unusedVariables false
/-- The bytes of a new table's pages, of which k have been laid. -/
def bnew (n k i : Nat) : List UInt8 := if i < k then (pgNew n i).bytes else B0 n i
theorem bnew_zero (n : Nat) : bnew n 0 = B0 n := by funext i; unfold bnew; rw [if_neg (by omega)]
theorem bnew_step (n k : Nat) : (fun i => if i = k then (pgNew n k).bytes else bnew n k i) = bnew n (k + 1) := by
  funext i
  unfold bnew
  by_cases e : i = k
  · subst e; rw [if_pos rfl, if_pos (by omega)]
  · rw [if_neg e]
    by_cases h : i < k
    · rw [if_pos h, if_pos (by omega)]
    · rw [if_neg h, if_neg (by omega)]
theorem pgNew_ok (n k : Nat) (hk : k < 3) : (pgNew n k).ok := by
  rcases (show k = 0 ∨ k = 1 ∨ k = 2 by omega) with rfl | rfl | rfl
  · exact Pag.ok_mk (by omega) (by omega) (by omega) (by kernel_rfl)
  · exact Pag.ok_mk (by omega) (by omega) (by omega) (by show (fmtL n).length = 240; unfold fmtL; rw [List.length_set, newL_len])
  · exact Pag.ok_mk (by omega) (by omega) (by omega) (zs_len 240)
theorem bnew_shows (n i : Nat) : Shows (bnew n 3 i) (pgNew n i) := by
  unfold bnew
  by_cases h : i < 3
  · rw [if_pos h]; exact .inl ⟨pgNew_ok n i h, rfl⟩
  · rw [if_neg h]
    refine .inr ⟨by unfold B0; rw [if_neg (by omega)], ?_⟩
    unfold pgNew
    rw [if_neg (by omega), if_neg (by omega), if_neg (by omega)]
theorem stoSet {w : World} {sb qb n c : Nat} {dead : Int} {B : Nat → List UInt8} (h : Sto w sb qb n c dead B) (j : Nat) (b : List UInt8) (hb : b.length ≤ 1000) : Sto (w.setCell ⟨qb, j, none⟩ (.string (str b))) sb qb n c dead (fun i => if i = j then b else B i) := by
  obtain ⟨cs, h1, h2⟩ := h.pgs
  refine ⟨(heap_setCell_other _ _ _ _ h.ne).trans h.sto, ⟨_, heap_setCell_same _ qb j _ _ _ h1, fun i hi => ?_⟩, h.le, h.ne, fun i hi => ?_⟩
  · have hlt : i < cs.size := (Array.getElem?_eq_some_iff.1 (h2 i hi)).1
    rw [Array.getElem?_setIfInBounds]
    by_cases e : i = j
    · subst e; rw [if_pos rfl, if_pos hlt, if_pos rfl]
    · rw [if_neg (fun h => e h.symm), if_neg e]; exact h2 i hi
  · by_cases e : i = j
    · rw [if_pos e]; exact hb
    · rw [if_neg e]; exact h.sm i hi
theorem stoCell {w : World} {sb qb n c : Nat} {dead : Int} {B : Nat → List UInt8} (h : Sto w sb qb n c dead B) (j : Nat) (hj : j < n) : w.cell? ⟨qb, j, none⟩ = some (.string (str (B j))) ∧ w.frozen? ⟨qb, j, none⟩ = false := by
  obtain ⟨cs, h1, h2⟩ := h.pgs
  exact ⟨(blk_cell h1 j).trans (h2 j hj), blk_free h1 j⟩
set_option maxRecDepth 100000 in
set_option maxHeartbeats 4000000 in
theorem newT_any (n : Nat) (w : World) (ht : Tab w) (h8 : 8 ≤ n) (h64 : n ≤ 64) :
    Calls Tryz.prog 14 #[.int .i64 n] w fun e w' => ∃ sb qb c, e = .returned (.pointer (some ⟨sb, 0, none⟩)) ∧ w.heap.size ≤ sb ∧ w.heap.size ≤ qb ∧ Below w.heap.size w w' ∧ Sto w' sb qb n c (-1) (bnew n 3) := by
  have hfm := format_ok n w h8 h64
  have hnew := fun W (k : Tab W) => snew_any n W k h8 h64
  have hput := fun W (k : Tab W) i hi => put_yes (pgNew n i) W k (pgNew_ok n i hi)
  have Ht := Lib.hid ht
  clear ht
  go_enter Tryz.func14, Tryz.ntmps14
  go_wp2_with fail
  with_reducible refine hfm.mono ?_
  rintro e w1 ⟨g, rfl, hg, hblk, hb1⟩
  have B1 := Lib.hid hb1
  have PG1 : Hid (w1.heap[g]? = some (.cells (flatP [pgNew n 0, pgNew n 1, pgNew n 2]).toArray 113 (0, 0))) := Lib.hid hblk
  have T1 := Lib.hid (Ht.out.below hb1)
  clear hb1 hblk hfm
  go_wp2_with fail
  with_reducible refine (hnew _ T1.out).mono ?_
  rintro e w2 ⟨sb, qb, c, rfl, hsb, hqb, hb2, hs2⟩
  have S2 : Hid (Sto w2 sb qb n c (-1) (bnew n 0)) := Lib.hid (by rw [bnew_zero]; exact hs2)
  have B2 := Lib.hid (below_base B1.out B1.out.size hb2)
  have hw1 := B1.out.size
  have PG2 := Lib.hid (blk_keep PG1.out hb2)
  have glt := lt_of_block PG1.out
  clear hb2 hs2 hnew
  go_wp2_with fail
  go_loopw [23] (fun v wr => ∃ k : Nat, v = .int .i64 (k : Nat) ∧ k ≤ 3 ∧ Hid (Sto wr sb qb n c (-1) (bnew n k)) ∧ Hid (Below w.heap.size w wr) ∧ Hid (wr.heap[g]? = some (.cells (flatP [pgNew n 0, pgNew n 1, pgNew n 2]).toArray 113 (0, 0)))) (fun v _ => 3 - (intOf v).toNat)
  case atStart => exact ⟨0, rfl, by omega, S2, B2, PG2⟩
  case round =>
    clear S2 B2 PG2
    obtain ⟨k, rfl, hk, S3, B3, PG3⟩ := hrel
    by_cases hlt : k < 3
    · have hkI : (k : Int) < 3 := by omega
      have hkn : (k : Int) < (n : Int) := by omega
      have i1w : IntKind.i64.wrap ((k : Int) + 1) = (k : Int) + 1 := IntWalk.i64_in _ (by omega)
      have hget : ([pgNew n 0, pgNew n 1, pgNew n 2])[k]'(by simpa using hlt) = pgNew n k := by rcases (show k = 0 ∨ k = 1 ∨ k = 2 by omega) with rfl | rfl | rfl <;> rfl
      have hc := fun r (hr : r < 4) (u : Value) (hu : (pcells (pgNew n k))[r]? = some u) => (show Hid (∀ W, Below wr.heap.size wr W → W.cell? ⟨g, k * 4 + r, none⟩ = some u) from Lib.hid (fun W hW => by
        rw [blk_cell (blk_keep PG3.out hW), List.getElem?_toArray, flatP_at (by simpa using hlt) r hr, hget]
        exact hu))
      have c0 := hc 0 (by omega) _ rfl
      have c1 := hc 1 (by omega) _ rfl
      have c2 := hc 2 (by omega) _ rfl
      have c3 := hc 3 (by omega) _ rfl
      rw [Nat.add_zero] at c0
      have hpt := fun W hW => hput W hW k hlt
      have lgr := lt_of_block PG3.out
      have hbl : (pgNew n k).bytes.length ≤ 1000 := by rw [Pag.bytes_len (pgNew_ok n k hlt)]; omega
      simp only [Pag.v] at hpt
      obtain ⟨PB, hPB⟩ : ∃ b, b = str (pgNew n k).bytes := ⟨_, rfl⟩
      obtain ⟨PL, hPL⟩ : ∃ b, b = str (pgNew n k).l := ⟨_, rfl⟩
      rw [← hPB, ← hPL] at hpt
      rw [← hPL] at c3
      have HPB := Lib.hid hPB
      generalize hP1 : (pgNew n k).k = P1 at *
      generalize hP2 : (pgNew n k).d = P2 at *
      generalize hP3 : (pgNew n k).x = P3 at *
      have TR := Lib.hid (Ht.out.below B3.out)
      have HPT := Lib.hid hpt
      clear hc hget hPB hPL hP1 hP2 hP3 hpt
      have d0 := c0.out wr (Below.refl _ _)
      have d1 := c1.out wr (Below.refl _ _)
      have d2 := c2.out wr (Below.refl _ _)
      have d3 := c3.out wr (Below.refl _ _)
      have cs0 := blk_cell S3.out.sto
      have ls0 := S3.out.lt1
      go_wp2_with fail
      go_region_law (go_simp; go_at_call 48; with_reducible refine (HPT.out _ (TR.out.below (below_dr (Below.refl _ _)))).mono ?_; rintro e w6 ⟨rfl, hb6⟩; have HH6 := Lib.hid (below_tr (below_dr (Below.refl _ wr)) hb6); have S6 := Lib.hid (S3.out.below HH6.out); have cq6 := (stoCell S6.out k (by omega)).1; have fq6 := (stoCell S6.out k (by omega)).2; have lq6 := S6.out.lt2; have cs6 := blk_cell S6.out.sto; have ls6 := S6.out.lt1)
      all_goals
        have SN : Hid (Sto (w6.setCell ⟨qb, k, none⟩ (.string PB)) sb qb n c (-1) (bnew n (k + 1))) := Lib.hid (by
          have h1 := stoSet S6.out k (pgNew n k).bytes hbl
          rw [bnew_step, ← HPB.out] at h1
          exact h1)
        have BN := Lib.hid (below_set (g := qb) (j := k) (u := .string PB) (below_base B3.out B3.out.size HH6.out) (by omega))
        have PN : Hid ((w6.setCell ⟨qb, k, none⟩ (.string PB)).heap[g]? = some (.cells (flatP [pgNew n 0, pgNew n 1, pgNew n 2]).toArray 113 (0, 0))) := Lib.hid ((heap_setCell_other _ _ _ _ (show g ≠ qb by omega)).trans (blk_keep PG3.out HH6.out))
        go_wp2_with fail
        go_roundw
        case rel => exact ⟨k + 1, by go_num, by omega, SN, BN, PN⟩
        case measure => clear i1w; simp [intOf]; omega
    · obtain rfl : k = 3 := by omega
      go_wp2_with fail
      go_ret
      exact ⟨sb, qb, c, rfl, by omega, by omega, B3.out, S3.out⟩
end Go.Proofs.YtijhamllnnilbaaGreatDoor.Ha
namespace Go.Proofs.YtijhamllnnilbaaGreatDoor.Ha
open Go.RowKit Go.Proofs.YtijhamllnnilbaaGreatDoor.Mem Go.Proofs.YtijhamllnnilbaaGreatDoor.Pg Go.Proofs.YtijhamllnnilbaaGreatDoor.Kp Go.Proofs.YtijhamllnnilbaaGreatDoor.Sp Go.Proofs.YtijhamllnnilbaaGreatDoor.Gr
set_option linter.unusedSimpArgs false
set_option linter.unusedVariables false
theorem ints_none' (w : World) (c : Nat) : Ints w none ([] : List Nat).length (toI []) := ⟨rfl, by simp, fun h => absurd h (by simp)⟩
/-- A row of no length. -/
theorem own_nil {w : World} {base : Nat} {e : TypeId} {size : Nat} {v : Value} (h : w.ownsRow base e size v 0 []) : ∃ A cap, v = .slice A 0 cap := by
  rcases h.2 with ⟨rfl, _⟩ | ⟨g, cap, cur, rfl, _⟩
  · exact ⟨_, _, rfl⟩
  · exact ⟨_, _, rfl⟩
/-- No key in the empty table. -/
theorem no00 (k : List UInt8) : ¬ (keyOk k ∧ has k (t00.at' (sumF k)).cells) := fun h => by
  obtain ⟨c, hc, _⟩ := h.2
  cases hc
set_option maxRecDepth 100000 in
set_option maxHeartbeats 4000000 in
theorem oth_any (K : Int) (key : List UInt8) (w : World) (ht : Tab w) :
    Calls Tryz.prog 12 #[.int .i64 K, .string (str key)] w fun e w' => e = .returned (.bool true) ∧ Below w.heap.size w w' := by
  have Hal := Lib.hid (fun W => Undo.alive_any W)
  have Ht := Lib.hid ht
  clear ht
  by_cases h40 : 40 < (str key).size
  · have h1I : (40 : Int) < ((str key).size : Int) := by omega
    obtain ⟨U, hU⟩ : ∃ U, U = str key := ⟨_, rfl⟩
    rw [← hU] at h1I ⊢
    clear hU h40
    go_enter Tryz.func12, Tryz.ntmps12
    go_wp2_with fail
    with_reducible refine (Hal.out _).mono ?_
    rintro e w1 ⟨rfl, hb1⟩
    have B1 := Lib.hid hb1
    clear hb1
    go_wp2_with fail
    go_ret
    exact ⟨rfl, B1.out⟩
  · have h1I : ¬ (40 : Int) < ((str key).size : Int) := by omega
    have hnew : ∀ W, Tab W → Calls Tryz.prog 14 #[.int .i64 12] W fun e w' => ∃ sb qb c, e = .returned (.pointer (some ⟨sb, 0, none⟩)) ∧ W.heap.size ≤ sb ∧ W.heap.size ≤ qb ∧ Below W.heap.size W w' ∧ Sto w' sb qb 12 c (-1) (bnew 12 3) := fun W h => newT_any 12 W h (by omega) (by omega)
    have Hnew := Lib.hid hnew
    obtain ⟨U, hU⟩ : ∃ U, U = str key := ⟨_, rfl⟩
    have HU := Lib.hid hU
    rw [← hU] at h1I ⊢
    clear hnew h40 hU
    go_enter Tryz.func12, Tryz.ntmps12
    go_wp2_with fail
    with_reducible refine (Hal.out _).mono ?_
    rintro e wz ⟨rfl, hbz⟩
    have Tz := Lib.hid (Ht.out.below hbz)
    have Bz0 := Lib.hid hbz
    clear hbz
    go_wp2_with fail
    with_reducible refine (Hnew.out _ Tz.out).mono ?_
    rintro e w1 ⟨sb, qb, c, rfl, hsb, hqb, hb1, hs1⟩
    have T1 := Lib.hid (Tz.out.below hb1)
    have S1 := Lib.hid hs1
    have B1 := Lib.hid (below_base Bz0.out Bz0.out.size hb1)
    clear hs1 hb1 Hnew
    go_wp2_with fail
    with_reducible refine (gnew_any w1 sb).mono ?_
    rintro e w2 ⟨gb, mb, rfl, hmb, hgb, hne, hb2, hg2⟩
    have B2 := Lib.hid (below_base B1.out B1.out.size hb2)
    have G2 := Lib.hid hg2
    have S2 := Lib.hid (S1.out.below hb2)
    have hgv : GV w w2 gb mb sb qb c 12 (pgNew 12) 0 := ⟨T1.out.below hb2, ⟨bnew 12 3, none0, S1.out.below hb2, hg2, fun i hi => ⟨_, rd_in hi, bnew_shows 12 i⟩⟩, by omega, B2.out, by
      have h1 := S1.out.lt1
      have h2 := S1.out.lt2
      have h3 := T1.out.lt
      have h4 := B1.out.size
      omega⟩
    have GV2 := Lib.hid hgv
    clear hsb hqb hmb hgb hne hb2 hg2 hgv S1 B1 T1 Tz Bz0
    by_cases hK : K = 1
    · subst hK
      have hdo := do_none w w2 gb mb sb qb c 12 0 (pgNew 12) 0 t00 key GV2.out (hs_new 12 (by omega) (by omega)).tb (no00 key)
      rw [← HU.out] at hdo
      clear G2 S2
      go_wp2_with fail
      with_reducible refine hdo.mono ?_
      rintro e w3 ⟨rfl, hg3, hb3⟩
      have B3 := Lib.hid (below_base B2.out B2.out.size hb3)
      have hd3 := dump_ok w w3 gb mb sb qb c 12 0 (pgNew 12) 0 t00 hg3 (hs_new 12 (by omega) (by omega)).tb (fun _ => []) (fun _ => []) (fun b hb x hx => by
        obtain rfl : b = ⟨2, [], []⟩ := by simpa [t00, Tri.leaves] using hb
        cases hx)
      clear hdo hg3 hb3 B2 GV2
      go_wp2_with fail
      with_reducible refine hd3.mono ?_
      rintro e w4 ⟨A4, c4, es, rfl, _, hp, _, hg4, hb4⟩
      have hl0 : es.length = 0 := by
        have h1 := hp.length_eq
        rw [List.length_map, (celsF_perm (hs_new 12 (by omega) (by omega)).tb).length_eq] at h1
        exact h1
      rw [hl0]
      have hc4 := check_ok w w4 gb mb sb qb c 12 0 (pgNew 12) 0 t00 (fmtL 12) [] hg4 (hs_new 12 (by omega) (by omega)) (fun _ => []) (fun _ => []) (fun b hb x hx => by
        obtain rfl : b = ⟨2, [], []⟩ := by simpa [t00, Tri.leaves] using hb
        cases hx) [] [] none 0 (ints_none' w4 0) (fun b off e => by cases e) (List.Perm.refl _)
      rw [if_pos rfl] at hc4
      have hc5 : Calls Tryz.prog 21 #[.pointer (some ⟨gb, 0, none⟩), .int .i64 12, .slice none 0 0] w4 fun e w' => e = .returned (.int .i64 0) ∧ Below w4.heap.size w4 w' := hc4.mono fun e w' h => ⟨h.1, h.2.2⟩
      have B4 := Lib.hid (below_base B3.out B3.out.size hb4)
      clear hd3 hp hg4 hb4 hl0 B3 hc4
      go_wp2_with fail
      with_reducible refine hc5.mono ?_
      rintro e w5 ⟨rfl, hb5⟩
      have B5 := Lib.hid (below_base B4.out B4.out.size hb5)
      clear hc5 hb5
      go_wp2_with fail
      go_ret
      exact ⟨rfl, B5.out⟩
    · have hdo := do_arg K U (.pointer (some ⟨gb, 0, none⟩)) w2 hK
      have e0 : (K == 1) = false := by simpa using hK
      go_wp2_with fail
      with_reducible refine hdo.mono ?_
      rintro e w3 ⟨rfl, hb3⟩
      have hpt := gpatches_nil w3 gb mb sb qb 12 c (-1) (bnew 12 3) none0 0 (S2.out.below hb3) (G2.out.below hb3)
      have B3 := Lib.hid (below_base B2.out B2.out.size hb3)
      clear hdo hb3 B2 GV2 G2 S2
      go_wp2_with fail
      with_reducible refine hpt.mono ?_
      rintro e w4 ⟨v, l, rfl, _, hl, hown, hb4⟩
      have hl0 : l = [] := List.eq_nil_iff_forall_not_mem.2 fun i hi => (hl i).1 hi rfl
      subst hl0
      obtain ⟨A4, c4, rfl⟩ := own_nil hown
      have B4 := Lib.hid (below_base B3.out B3.out.size hb4)
      clear hpt hl hown hb4 B3
      go_wp2_with fail
      go_ret
      exact ⟨rfl, B4.out⟩
/-- The law, of any number and text. -/
theorem oth_law (K : Int) (U : ByteArray) (w : World) (ht : Tab w) :
    Calls Tryz.prog 12 #[.int .i64 K, .string U] w fun e w' => e = .returned (.bool true) ∧ Below w.heap.size w w' := by
  have h := oth_any K U.data.toList w ht
  rw [← str_of] at h
  exact h
end Go.Proofs.YtijhamllnnilbaaGreatDoor.Ha
