/- Lemmas of the claim, in their order:
- The contract of dir's Set.
-/
import Derived.Test.YtijhamllnnilbaaGreatDoorU14
set_option linter.unusedVariables false
set_option linter.unusedSimpArgs false
namespace Go.Proofs.YtijhamllnnilbaaGreatDoor.Dr
open Go.RowKit Go.Proofs.YtijhamllnnilbaaGreatDoor.Mem Go.Proofs.YtijhamllnnilbaaGreatDoor.Pg

/-- What may be set in a directory of depth d. -/
def SetOk (d bits dep y : Int) : Prop := 0 ≤ dep ∧ dep ≤ d ∧ 0 ≤ bits ∧ bits < 2 ^ dep.toNat ∧ mayP y
/-- Entries below m that end in those bits are set. -/
def setTo (xs : List Int) (q : Nat) (bits y : Int) (m : Nat) : List Int := (List.range xs.length).map fun i => if i < m ∧ ((i % q : Nat) : Int) = bits then y else xs.getD i 0
theorem setTo_len (xs : List Int) (q : Nat) (bits y : Int) (m : Nat) : (setTo xs q bits y m).length = xs.length := by simp [setTo]
theorem setTo_zero (xs : List Int) (q : Nat) (bits y : Int) : setTo xs q bits y 0 = xs := by
  refine List.ext_getElem (by simp [setTo]) fun i h1 h2 => ?_
  simp [setTo, List.getD_eq_getElem?_getD, List.getElem?_eq_getElem h2]
theorem setTo_yes (xs : List Int) (q : Nat) (bits y : Int) (m : Nat) (hb : ((m % q : Nat) : Int) = bits) : setTo xs q bits y (m + 1) = (setTo xs q bits y m).set m y := by
  refine List.ext_getElem (by simp [setTo]) fun i h1 h2 => ?_
  rw [List.getElem_set]
  simp only [setTo, List.getElem_map, List.getElem_range]
  by_cases h : m = i
  · subst h
    simp [hb]
  · rw [if_neg h]
    by_cases hi : i < m
    · simp [hi, show i < m + 1 by omega]
    · simp [hi, show ¬ i < m + 1 by omega]
theorem setTo_no (xs : List Int) (q : Nat) (bits y : Int) (m : Nat) (hb : ¬ ((m % q : Nat) : Int) = bits) : setTo xs q bits y (m + 1) = setTo xs q bits y m := by
  refine List.ext_getElem (by simp [setTo]) fun i h1 h2 => ?_
  simp only [setTo, List.getElem_map, List.getElem_range]
  by_cases h : i = m
  · subst h
    rw [if_neg (fun h => hb h.2), if_neg (fun h => hb h.2)]
  · by_cases hi : i < m
    · simp [hi, show i < m + 1 by omega]
    · simp [hi, show ¬ i < m + 1 by omega]
theorem setTo_may {xs : List Int} {q : Nat} {bits y : Int} {m : Nat} (hx : ∀ z ∈ xs, mayP z) (hy : mayP y) : ∀ z ∈ setTo xs q bits y m, mayP z := by
  intro z hz
  obtain ⟨i, hi, rfl⟩ := List.mem_map.1 hz
  have hi : i < xs.length := by simpa using hi
  split
  · exact hy
  · exact hx _ (List.mem_iff_getElem?.2 ⟨i, by rw [List.getD_eq_getElem?_getD, List.getElem?_eq_getElem hi, Option.getD_some]⟩)
theorem and_code (i m : Nat) (hi : i ≤ 1000) (hm : m ≤ 5) : bits .and .i64 (i : Int) (((2 ^ m : Nat) : Int) - 1) = ((i % 2 ^ m : Nat) : Int) := by
  have h32 := (pow_small m hm).2
  have e : ((2 ^ m : Nat) : Int) - 1 = ((2 ^ m - 1 : Nat) : Int) := by omega
  rw [e]
  have h1 : (BitVec.ofInt 64 (i : Int)).toNat = i := by
    rw [BitVec.ofInt_natCast, BitVec.toNat_ofNat]; exact Nat.mod_eq_of_lt (by omega)
  have h2 : (BitVec.ofInt 64 ((2 ^ m - 1 : Nat) : Int)).toNat = 2 ^ m - 1 := by
    rw [BitVec.ofInt_natCast, BitVec.toNat_ofNat]; exact Nat.mod_eq_of_lt (by omega)
  have h3 : i % 2 ^ m ≤ i := Nat.mod_le _ _
  show IntKind.i64.wrap ((BitVec.ofInt 64 (i : Int) &&& BitVec.ofInt 64 ((2 ^ m - 1 : Nat) : Int)).toNat : Int) = _
  rw [BitVec.toNat_and, h1, h2, Nat.and_two_pow_sub_one_eq_mod, IntWalk.i64_in _ (by omega)]
theorem and_q (q m : Nat) (hq : q = 2 ^ m) (hm : m ≤ 5) (i : Nat) (hi : i ≤ 1000) : bits .and .i64 (i : Int) ((q : Int) - 1) = ((i % q : Nat) : Int) := by
  subst hq
  exact and_code i m hi hm
def SetPost (w : World) (k d x : Int) (l : List UInt8) (bits dep y : Int) (e : Ending) (w' : World) : Prop :=
  (((∀ n, ¬ IsDir k d l n) ∧ e = .returned (.tuple #[.agg #[.int .i64 0, .int .i64 0, .int .i64 0, .string ⟨#[]⟩], .int .i64 2])) ∨
   (∃ n, IsDir k d l n ∧ ¬ SetOk d bits dep y ∧ e = .returned (.tuple #[.agg #[.int .i64 0, .int .i64 0, .int .i64 0, .string ⟨#[]⟩], .int .i64 1])) ∨
   (∃ n, IsDir k d l n ∧ SetOk d bits dep y ∧ e = .returned (.tuple #[.agg #[.int .i64 k, .int .i64 d, .int .i64 x, .string (str (bodyOf (setTo (ents l n) (2 ^ dep.toNat) bits y n)))], .int .i64 0]))) ∧ Below w.heap.size w w'

set_option maxRecDepth 100000 in
set_option maxHeartbeats 4000000 in
theorem set_any (k d x : Int) (l : List UInt8) (bits dep y : Int) (w : World) :
    Calls Tryz.prog 145 #[.agg #[.int .i64 k, .int .i64 d, .int .i64 x, .string (str l)], .int .i64 bits, .int .i64 dep, .int .i64 y] w (SetPost w k d x l bits dep y) := by
  have hof := fun w => of_any k d x l w
  have hma := fun w => may_any y w
  generalize str l = S at *
  go_enter Tryz.func145, Tryz.ntmps145
  go_wp2_with fail
  with_reducible refine (hof _).mono ?_
  clear hof
  rintro e w1 (⟨n, g, cap, hd, rfl, hown, hgl, hgb, hb⟩ | ⟨hno, rfl, hb⟩)
  · have Hd := Lib.hid hd
    have hpb := (blk2_below hb).1
    have hrb := (blk2_below hb).2
    have hbw := below_box (below_box hb)
    have hcp := blk_cell hpb
    have hlp := lt_of_block hpb
    have hcr := blk_cell hrb
    have hfr := blk_free hrb
    have hlr := lt_of_block hrb
    by_cases hdl : 0 ≤ dep
    · obtain ⟨m, rfl⟩ := Int.eq_ofNat_of_zero_le hdl
      by_cases hdd : (m : Int) ≤ d
      · have hm5 : m ≤ 5 := by have := hd.hi; omega
        obtain ⟨pe, pl, pu⟩ := pow_small m hm5
        obtain ⟨q, hq⟩ : ∃ q, q = 2 ^ m := ⟨_, rfl⟩
        have hqw : wrap64 ((2 : Int) ^ m) = (q : Int) := by rw [Int.toNat_natCast] at pe; rw [pe, ← hq]; exact (wrap_small _ (by omega)).1
        rw [← hq] at pl pu
        have Hand := Lib.hid (and_q q m hq hm5)
        have Hq := Lib.hid hq
        clear hq pe
        by_cases hb0 : 0 ≤ bits
        · by_cases hbq : bits < (q : Int)
          · by_cases hy : mayP y
            · have hmb : mayB y = true := decide_eq_true hy
              rw [hmb] at hma
              have hok : Hid (SetOk d bits m y) := ⟨by omega, hdd, hb0, by rw [(pow_small m hm5).1, ← Hq.out]; exact hbq, hy⟩
              have Hown := Lib.hid hown
              clear hd hown
              go_wp2_with fail
              with_reducible refine (hma _).mono ?_
              rintro e w2 ⟨rfl, hw2⟩
              subst hw2
              clear hma
              go_wp2_with fail
              have hnl := Hd.out.le
              have HLn : Hid ((ents l n).length = n) := ents_len l n
              have hgE : g ≠ w1.heap.size := by omega
              have hgb2 : w.heap.size + 2 ≤ g := by simp at hgb; omega
              go_loopw [54] (fun i wr => ∃ j : Nat, i = .int .i64 j ∧ j ≤ n ∧ wr.heap[w.heap.size]? = some (.cells #[.int .i64 k, .int .i64 d, .int .i64 x, .string S] 113 (0, 0)) ∧ wr.heap[w.heap.size + 1]? = some (.cells #[.int .i64 0, .int .i64 0, .int .i64 0, .string ⟨#[]⟩] 113 (0, 0)) ∧ wr.heap[w1.heap.size]? = some (.cells #[.slice (some ⟨g, 0, none⟩) n cap, .int .i64 y] 248 (0, 0)) ∧ wr.ownsRow (w.heap.size + 2) 3 1 (.slice (some ⟨g, 0, none⟩) n cap) n (ints (setTo (ents l n) q bits y j)) ∧ Below w.heap.size w wr) (fun i _ => n - (intOf i).toNat)
              case atStart =>
                refine ⟨0, rfl, Nat.zero_le _, hal hpb, hal hrb, heap_alloc_new w1 _, ?_, below_al hbw _⟩
                rw [setTo_zero]
                exact own_weaken (Hown.out.alloc _) (by simp)
              case round =>
                obtain ⟨j, rfl, hj, f1, f2, f3, fown, fbel⟩ := hrel
                clear hcp hlp hcr hfr hlr hpb hrb hb
                have c1 := blk_cell f1
                have c2 := blk_cell f2
                have c2f := blk_free f2
                have c3 := blk_cell f3
                have c3f := blk_free f3
                have z1 := lt_of_block f1
                have z2 := lt_of_block f2
                have z3 := lt_of_block f3
                by_cases hlt : j < n
                · obtain ⟨r, hr⟩ : ∃ r, r = j % q := ⟨_, rfl⟩
                  obtain ⟨qm, hqm⟩ : ∃ qm : Int, qm = (q : Int) - 1 := ⟨_, rfl⟩
                  have i1 : IntKind.i64.wrap ((q : Int) - 1) = qm := by rw [IntWalk.i64_in _ (by omega)]; exact hqm.symm
                  have i2 := Hand.out j (by omega)
                  rw [← hqm, ← hr] at i2
                  have Hr := Lib.hid hr
                  have Hqm := Lib.hid hqm
                  have Hf := Lib.hid fown
                  clear hr hqm fown
                  by_cases hbr : (r : Int) = bits
                  · go_wp2_with fail
                    have hxy : (ints (setTo (ents l n) q bits y j)).set j (.int .i64 y) = ints (setTo (ents l n) q bits y (j + 1)) := by
                      rw [setTo_yes _ _ _ _ _ (by rw [← Hr.out]; exact hbr), ints, ints, List.map_set]
                    have hget : wr.cell? ⟨g, j, none⟩ = some (.int .i64 ((setTo (ents l n) q bits y j).getD j 0)) := by
                      have hL : j < (setTo (ents l n) q bits y j).length := by rw [setTo_len, HLn.out]; exact hlt
                      refine own_at Hf.out j _ ?_
                      rw [ints, List.getElem?_map, List.getElem?_eq_getElem hL, List.getD_eq_getElem?_getD, List.getElem?_eq_getElem hL]
                      rfl
                    refine (setOne_any w1.heap.size g n cap j y _ wr (c3 0) (c3 1) hlt (by omega) hget (own_free Hf.out j) hgE).mono ?_
                    rintro e w4 ⟨rfl, rfl⟩
                    have hst := Hf.out.stored j (.int .i64 y)
                    rw [hxy] at hst
                    go_wp2_with fail
                    case roundEnd =>
                      refine ⟨⟨j + 1, by simp, by omega, ?_, ?_, ?_, own_below hst.1 (below_dr (Below.refl _ _)), below_dr (below_set fbel (by omega))⟩, by simp only [intOf]; omega⟩
                      · exact (heap_setCell_other wr ⟨g, j, none⟩ _ _ (by show w.heap.size ≠ g; omega)).trans f1
                      · exact (heap_setCell_other wr ⟨g, j, none⟩ _ _ (by show w.heap.size + 1 ≠ g; omega)).trans f2
                      · exact (heap_setCell_other wr ⟨g, j, none⟩ _ _ (by show w1.heap.size ≠ g; omega)).trans f3
                  · go_wp2_with fail
                    case roundEnd =>
                      refine ⟨⟨j + 1, by simp, by omega, f1, f2, f3, ?_, fbel⟩, by simp only [intOf]; omega⟩
                      rw [setTo_no _ _ _ _ _ (by rw [← Hr.out]; exact hbr)]
                      exact Hf.out
                · obtain rfl : j = n := by omega
                  have hmx : ∀ z ∈ setTo (ents l j) q bits y j, mayP z := setTo_may (fun z hz => by
                    obtain ⟨i, hi, rfl⟩ := List.mem_map.1 hz
                    exact Hd.out.may i (by simpa using hi)) hy
                  have hint : Ints wr (some ⟨g, 0, none⟩) j (setTo (ents l j) q bits y j) := by
                    obtain ⟨A, c, hv, hI⟩ := ints_of_own fown
                    simp only [Value.slice.injEq] at hv
                    obtain ⟨rfl, -, rfl⟩ := hv
                    exact hI
                  have hPP : Hid (str (bodyOf (setTo (ents l j) q bits y j)) = str (bodyOf (setTo (ents l j) (2 ^ (m : Int).toNat) bits y j))) := by
                    show _ = _
                    rw [Int.toNat_natCast, ← Hq.out]
                  have hpa := page_any k d x y d S (some ⟨g, 0, none⟩) j cap (setTo (ents l j) q bits y j) wr hint hmx hnl.1 hnl.2
                  rw [hPP.out] at hpa
                  obtain ⟨Y, hY⟩ : ∃ Y, Y = str (bodyOf (setTo (ents l j) (2 ^ (m : Int).toNat) bits y j)) := ⟨_, rfl⟩
                  rw [← hY] at hpa
                  have HY := Lib.hid hY
                  have Hpa := Lib.hid hpa
                  clear hY hpa hint hmx hPP
                  go_wp2_with fail
                  refine Hpa.out.mono ?_
                  rintro e w5 ⟨rfl, hbp⟩
                  have hr6 := blk_keep f2 hbp
                  have hb6 := below_base fbel fbel.size hbp
                  have c6 := blk_cell hr6
                  have c6f := blk_free hr6
                  have z6 := lt_of_block hr6
                  clear f1 f2 f3 c1 c2 c2f c3 c3f z1 z2 z3 Hpa hbp fown
                  go_wp2
                  have hW : (set4 w5 (w.heap.size + 1) (.int .i64 k) (.int .i64 d) (.int .i64 x) (.string Y)).heap[w.heap.size + 1]? = _ := set4_same hr6 (.int .i64 k) (.int .i64 d) (.int .i64 x) (.string Y)
                  have hB := below_set4 hb6 (show w.heap.size ≤ w.heap.size + 1 by omega) (.int .i64 k) (.int .i64 d) (.int .i64 x) (.string Y)
                  change bodyPost _ _ _ _ _ (set4 w5 (w.heap.size + 1) (.int .i64 k) (.int .i64 d) (.int .i64 x) (.string Y))
                  generalize set4 w5 (w.heap.size + 1) (.int .i64 k) (.int .i64 d) (.int .i64 x) (.string Y) = WF at *
                  have j0 := blk_cell hW 0
                  have j1 := blk_cell hW 1
                  have j2 := blk_cell hW 2
                  have j3 := blk_cell hW 3
                  clear hW c6 c6f
                  refine bodyPost_ret (v := .tuple #[.agg #[.int .i64 k, .int .i64 d, .int .i64 x, .string Y], .int .i64 0]) ?_ rfl (⟨.inr (.inr ⟨j, Hd.out, hok.out, by rw [HY.out]⟩), hB⟩)
                  simp [results, Tryz.results145, go_sem, j0, j1, j2, j3]
            · have hmb : mayB y = false := decide_eq_false hy
              rw [hmb] at hma
              have hno : Hid (¬ SetOk d bits m y) := fun h => hy h.2.2.2.2
              clear hd hown
              go_wp2_with fail
              with_reducible refine (hma _).mono ?_
              rintro e w2 ⟨rfl, hw2⟩
              subst hw2
              clear hma
              go_wp2
              have hW : (((set4 w1 (w.heap.size + 1) (.int .i64 0) (.int .i64 0) (.int .i64 0) (.string ⟨#[]⟩)).alloc (.cells #[.slice (some ⟨g, 0, none⟩) n cap, .int .i64 0] 248))).heap[w.heap.size + 1]? = some (.cells #[.int .i64 0, .int .i64 0, .int .i64 0, .string ⟨#[]⟩] 113 (0, 0)) := hal (set4_same hrb _ _ _ _)
              have hB : Below w.heap.size w (((set4 w1 (w.heap.size + 1) (.int .i64 0) (.int .i64 0) (.int .i64 0) (.string ⟨#[]⟩)).alloc (.cells #[.slice (some ⟨g, 0, none⟩) n cap, .int .i64 0] 248))) := below_al (below_set4 hbw (show w.heap.size ≤ w.heap.size + 1 by omega) _ _ _ _) _
              change bodyPost _ _ _ _ _ (((set4 w1 (w.heap.size + 1) (.int .i64 0) (.int .i64 0) (.int .i64 0) (.string ⟨#[]⟩)).alloc (.cells #[.slice (some ⟨g, 0, none⟩) n cap, .int .i64 0] 248)))
              generalize ((set4 w1 (w.heap.size + 1) (.int .i64 0) (.int .i64 0) (.int .i64 0) (.string ⟨#[]⟩)).alloc (.cells #[.slice (some ⟨g, 0, none⟩) n cap, .int .i64 0] 248)) = WF at *
              have j0 := blk_cell hW 0
              have j1 := blk_cell hW 1
              have j2 := blk_cell hW 2
              have j3 := blk_cell hW 3
              clear hW hcr hfr
              refine bodyPost_ret (v := .tuple #[.agg #[.int .i64 0, .int .i64 0, .int .i64 0, .string ⟨#[]⟩], .int .i64 1]) ?_ rfl ⟨.inr (.inl ⟨n, Hd.out, hno.out, rfl⟩), hB⟩
              simp [results, Tryz.results145, go_sem, j0, j1, j2, j3]
          · have hno : Hid (¬ SetOk d bits m y) := fun h => hbq (by have := h.2.2.2.1; rw [(pow_small m hm5).1, ← Hq.out] at this; exact this)
            clear hma hd hown
            go_wp2
            have hW : (((set4 w1 (w.heap.size + 1) (.int .i64 0) (.int .i64 0) (.int .i64 0) (.string ⟨#[]⟩)).alloc (.cells #[.slice (some ⟨g, 0, none⟩) n cap, .int .i64 0] 248))).heap[w.heap.size + 1]? = some (.cells #[.int .i64 0, .int .i64 0, .int .i64 0, .string ⟨#[]⟩] 113 (0, 0)) := hal (set4_same hrb _ _ _ _)
            have hB : Below w.heap.size w (((set4 w1 (w.heap.size + 1) (.int .i64 0) (.int .i64 0) (.int .i64 0) (.string ⟨#[]⟩)).alloc (.cells #[.slice (some ⟨g, 0, none⟩) n cap, .int .i64 0] 248))) := below_al (below_set4 hbw (show w.heap.size ≤ w.heap.size + 1 by omega) _ _ _ _) _
            change bodyPost _ _ _ _ _ (((set4 w1 (w.heap.size + 1) (.int .i64 0) (.int .i64 0) (.int .i64 0) (.string ⟨#[]⟩)).alloc (.cells #[.slice (some ⟨g, 0, none⟩) n cap, .int .i64 0] 248)))
            generalize ((set4 w1 (w.heap.size + 1) (.int .i64 0) (.int .i64 0) (.int .i64 0) (.string ⟨#[]⟩)).alloc (.cells #[.slice (some ⟨g, 0, none⟩) n cap, .int .i64 0] 248)) = WF at *
            have j0 := blk_cell hW 0
            have j1 := blk_cell hW 1
            have j2 := blk_cell hW 2
            have j3 := blk_cell hW 3
            clear hW hcr hfr
            refine bodyPost_ret (v := .tuple #[.agg #[.int .i64 0, .int .i64 0, .int .i64 0, .string ⟨#[]⟩], .int .i64 1]) ?_ rfl ⟨.inr (.inl ⟨n, Hd.out, hno.out, rfl⟩), hB⟩
            simp [results, Tryz.results145, go_sem, j0, j1, j2, j3]
        · have hno : Hid (¬ SetOk d bits m y) := fun h => hb0 h.2.2.1
          clear hma hd hown
          go_wp2
          have hW : (((set4 w1 (w.heap.size + 1) (.int .i64 0) (.int .i64 0) (.int .i64 0) (.string ⟨#[]⟩)).alloc (.cells #[.slice (some ⟨g, 0, none⟩) n cap, .int .i64 0] 248))).heap[w.heap.size + 1]? = some (.cells #[.int .i64 0, .int .i64 0, .int .i64 0, .string ⟨#[]⟩] 113 (0, 0)) := hal (set4_same hrb _ _ _ _)
          have hB : Below w.heap.size w (((set4 w1 (w.heap.size + 1) (.int .i64 0) (.int .i64 0) (.int .i64 0) (.string ⟨#[]⟩)).alloc (.cells #[.slice (some ⟨g, 0, none⟩) n cap, .int .i64 0] 248))) := below_al (below_set4 hbw (show w.heap.size ≤ w.heap.size + 1 by omega) _ _ _ _) _
          change bodyPost _ _ _ _ _ (((set4 w1 (w.heap.size + 1) (.int .i64 0) (.int .i64 0) (.int .i64 0) (.string ⟨#[]⟩)).alloc (.cells #[.slice (some ⟨g, 0, none⟩) n cap, .int .i64 0] 248)))
          generalize ((set4 w1 (w.heap.size + 1) (.int .i64 0) (.int .i64 0) (.int .i64 0) (.string ⟨#[]⟩)).alloc (.cells #[.slice (some ⟨g, 0, none⟩) n cap, .int .i64 0] 248)) = WF at *
          have j0 := blk_cell hW 0
          have j1 := blk_cell hW 1
          have j2 := blk_cell hW 2
          have j3 := blk_cell hW 3
          clear hW hcr hfr
          refine bodyPost_ret (v := .tuple #[.agg #[.int .i64 0, .int .i64 0, .int .i64 0, .string ⟨#[]⟩], .int .i64 1]) ?_ rfl ⟨.inr (.inl ⟨n, Hd.out, hno.out, rfl⟩), hB⟩
          simp [results, Tryz.results145, go_sem, j0, j1, j2, j3]
      · have hno : Hid (¬ SetOk d bits m y) := fun h => hdd h.2.1
        clear hma hd hown
        go_wp2
        have hW : (((set4 w1 (w.heap.size + 1) (.int .i64 0) (.int .i64 0) (.int .i64 0) (.string ⟨#[]⟩)).alloc (.cells #[.slice (some ⟨g, 0, none⟩) n cap, .int .i64 0] 248))).heap[w.heap.size + 1]? = some (.cells #[.int .i64 0, .int .i64 0, .int .i64 0, .string ⟨#[]⟩] 113 (0, 0)) := hal (set4_same hrb _ _ _ _)
        have hB : Below w.heap.size w (((set4 w1 (w.heap.size + 1) (.int .i64 0) (.int .i64 0) (.int .i64 0) (.string ⟨#[]⟩)).alloc (.cells #[.slice (some ⟨g, 0, none⟩) n cap, .int .i64 0] 248))) := below_al (below_set4 hbw (show w.heap.size ≤ w.heap.size + 1 by omega) _ _ _ _) _
        change bodyPost _ _ _ _ _ (((set4 w1 (w.heap.size + 1) (.int .i64 0) (.int .i64 0) (.int .i64 0) (.string ⟨#[]⟩)).alloc (.cells #[.slice (some ⟨g, 0, none⟩) n cap, .int .i64 0] 248)))
        generalize ((set4 w1 (w.heap.size + 1) (.int .i64 0) (.int .i64 0) (.int .i64 0) (.string ⟨#[]⟩)).alloc (.cells #[.slice (some ⟨g, 0, none⟩) n cap, .int .i64 0] 248)) = WF at *
        have j0 := blk_cell hW 0
        have j1 := blk_cell hW 1
        have j2 := blk_cell hW 2
        have j3 := blk_cell hW 3
        clear hW hcr hfr
        refine bodyPost_ret (v := .tuple #[.agg #[.int .i64 0, .int .i64 0, .int .i64 0, .string ⟨#[]⟩], .int .i64 1]) ?_ rfl ⟨.inr (.inl ⟨n, Hd.out, hno.out, rfl⟩), hB⟩
        simp [results, Tryz.results145, go_sem, j0, j1, j2, j3]
    · have hno : Hid (¬ SetOk d bits dep y) := fun h => hdl h.1
      clear hma hd hown
      go_wp2
      have hW : (((set4 w1 (w.heap.size + 1) (.int .i64 0) (.int .i64 0) (.int .i64 0) (.string ⟨#[]⟩)).alloc (.cells #[.slice (some ⟨g, 0, none⟩) n cap, .int .i64 0] 248))).heap[w.heap.size + 1]? = some (.cells #[.int .i64 0, .int .i64 0, .int .i64 0, .string ⟨#[]⟩] 113 (0, 0)) := hal (set4_same hrb _ _ _ _)
      have hB : Below w.heap.size w (((set4 w1 (w.heap.size + 1) (.int .i64 0) (.int .i64 0) (.int .i64 0) (.string ⟨#[]⟩)).alloc (.cells #[.slice (some ⟨g, 0, none⟩) n cap, .int .i64 0] 248))) := below_al (below_set4 hbw (show w.heap.size ≤ w.heap.size + 1 by omega) _ _ _ _) _
      change bodyPost _ _ _ _ _ (((set4 w1 (w.heap.size + 1) (.int .i64 0) (.int .i64 0) (.int .i64 0) (.string ⟨#[]⟩)).alloc (.cells #[.slice (some ⟨g, 0, none⟩) n cap, .int .i64 0] 248)))
      generalize ((set4 w1 (w.heap.size + 1) (.int .i64 0) (.int .i64 0) (.int .i64 0) (.string ⟨#[]⟩)).alloc (.cells #[.slice (some ⟨g, 0, none⟩) n cap, .int .i64 0] 248)) = WF at *
      have j0 := blk_cell hW 0
      have j1 := blk_cell hW 1
      have j2 := blk_cell hW 2
      have j3 := blk_cell hW 3
      clear hW hcr hfr
      refine bodyPost_ret (v := .tuple #[.agg #[.int .i64 0, .int .i64 0, .int .i64 0, .string ⟨#[]⟩], .int .i64 1]) ?_ rfl ⟨.inr (.inl ⟨n, Hd.out, hno.out, rfl⟩), hB⟩
      simp [results, Tryz.results145, go_sem, j0, j1, j2, j3]
  · have Hno := Lib.hid hno
    have hpb := (blk2_below hb).1
    have hrb := (blk2_below hb).2
    have hbw := below_box (below_box hb)
    have hcp := blk_cell hpb
    have hlp := lt_of_block hpb
    have hcr := blk_cell hrb
    have hfr := blk_free hrb
    have hlr := lt_of_block hrb
    clear hno hma
    go_wp2
    have hW : (((set4 w1 (w.heap.size + 1) (.int .i64 0) (.int .i64 0) (.int .i64 0) (.string ⟨#[]⟩)).alloc (.cells #[.slice none 0 0, .int .i64 0] 248))).heap[w.heap.size + 1]? = some (.cells #[.int .i64 0, .int .i64 0, .int .i64 0, .string ⟨#[]⟩] 113 (0, 0)) := hal (set4_same hrb _ _ _ _)
    have hB : Below w.heap.size w (((set4 w1 (w.heap.size + 1) (.int .i64 0) (.int .i64 0) (.int .i64 0) (.string ⟨#[]⟩)).alloc (.cells #[.slice none 0 0, .int .i64 0] 248))) := below_al (below_set4 hbw (show w.heap.size ≤ w.heap.size + 1 by omega) _ _ _ _) _
    change bodyPost _ _ _ _ _ (((set4 w1 (w.heap.size + 1) (.int .i64 0) (.int .i64 0) (.int .i64 0) (.string ⟨#[]⟩)).alloc (.cells #[.slice none 0 0, .int .i64 0] 248)))
    generalize ((set4 w1 (w.heap.size + 1) (.int .i64 0) (.int .i64 0) (.int .i64 0) (.string ⟨#[]⟩)).alloc (.cells #[.slice none 0 0, .int .i64 0] 248)) = WF at *
    have j0 := blk_cell hW 0
    have j1 := blk_cell hW 1
    have j2 := blk_cell hW 2
    have j3 := blk_cell hW 3
    clear hW hcr hfr
    refine bodyPost_ret (v := .tuple #[.agg #[.int .i64 0, .int .i64 0, .int .i64 0, .string ⟨#[]⟩], .int .i64 2]) ?_ rfl ⟨.inl ⟨Hno.out, rfl⟩, hB⟩
    simp [results, Tryz.results145, go_sem, j0, j1, j2, j3]
end Go.Proofs.YtijhamllnnilbaaGreatDoor.Dr
