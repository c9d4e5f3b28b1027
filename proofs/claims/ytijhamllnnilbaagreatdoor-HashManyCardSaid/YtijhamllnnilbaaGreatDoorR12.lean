/- Lemmas of the claim, in their order:
- The contracts of package bucket's cells, Cells, at, Find, with.
- The contract of slices.Insert at cells, of one cell that lies in a block of its own.
-/
import Derived.Test.YtijhamllnnilbaaGreatDoorR07
import Derived.Test.YtijhamllnnilbaaGreatDoorR11
import Derived.Test.YtijhamllnnilbaaGreatDoorR05
import Derived.Shelf.Spec.SlicesInsertGrow
import Derived.Laws.CopyOwn
import Derived.Deep.RegionLaw
set_option linter.unusedVariables false
set_option linter.unusedSimpArgs false
namespace Go.Proofs.YtijhamllnnilbaaGreatDoor.Ha
open Go.RowKit Go.Proofs.YtijhamllnnilbaaGreatDoor.Mem Go.Proofs.YtijhamllnnilbaaGreatDoor.Pg Go.Proofs.YtijhamllnnilbaaGreatDoor.Kp Go.Proofs.YtijhamllnnilbaaGreatDoor.Sp Go.Proofs.YtijhamllnnilbaaGreatDoor.Gr
set_option linter.unusedSimpArgs false
set_option linter.unusedVariables false
instance (k : List UInt8) (l : List Cel) : Decidable (has k l) := decidable_of_iff (l.any (fun c => decide (c.key = k)) = true) (by simp [has])
structure Bkt (p : Pag) (l : List Cel) : Prop where
 k : p.k = 3 ∨ p.k = 4
 body : p.l = bodyF l
 fits : Fits l
theorem atf_any (c : Cel) (k : List UInt8) (w : World) :
 Calls Tryz.prog 192 #[c.v, .string (str k)] w fun e w' => e = .returned (.int .i64 (Lib.compareBytes c.key k)) ∧ Below w.heap.size w w' := by
 obtain ⟨key, v, b, z⟩ := c
 have hcmp := fun W => Tryz.strings_Compare (str key) (str k) W
 have e1 : (str key).data.toList = key := rfl
 have e2 : (str k).data.toList = k := rfl
 rw [e1, e2] at hcmp
 simp only [Cel.v]
 have hc := blk_cell (heap_alloc_new w (celO (str key) (str v) b z))
 have hb := below_al (Below.refl _ w) (celO (str key) (str v) b z)
 generalize Lib.compareBytes key k = r at *
 generalize str key = K at *
 generalize str k = T at *
 generalize str v = V at *
 clear e1 e2
 go_enter Tryz.func192, Tryz.ntmps192
 go_wp2_with fail
 with_reducible refine (hcmp _).mono ?_
 rintro e w1 ⟨rfl, rfl⟩
 go_wp2_with fail
 go_ret
 exact ⟨rfl, hb⟩
theorem has_pos {k : List UInt8} {l : List Cel} (hs : Sorted l) (h : pos k l < l.length) : has k l ↔ (l[pos k l]).key = k := by
 rw [has_iff hs]
 exact ⟨fun ⟨_, e⟩ => e, fun e => ⟨h, e⟩⟩
theorem has_not {k : List UInt8} {l : List Cel} (hs : Sorted l) (h : ¬ pos k l < l.length) : ¬ has k l := by
 rw [has_iff hs]
 exact fun ⟨h', _⟩ => h h'
set_option maxRecDepth 100000 in
set_option maxHeartbeats 2000000 in
theorem bsearch_any (A : Option Addr) (cap : Nat) (l : List Cel) (k : List UInt8) (w : World) (hA : Cels w A l) (hs : Sorted l) (hl : l.length ≤ 200) :
 Calls Tryz.prog 191 #[.slice A l.length cap, .string (str k), .func (.func 192) #[] #[]] w fun e w' =>
  e = .returned (.tuple #[.int .i64 (pos k l), .bool (decide (has k l))]) ∧ Below w.heap.size w w' := by
 have hple := pos_le k l
 have hlo := fun i (h : i < l.length) => pos_lt (k := k) hs i h
 have hcmp := fun i (h : i < l.length) W => atf_any l[i] k W
 have hhas := has_pos (k := k) hs
 have hnot := has_not (k := k) hs
 have hfin : ∀ h : pos k l < l.length, decide (has k l) = decide (Lib.compareBytes (l[pos k l]).key k = 0) := fun h => by
  rw [decide_eq_decide, cmp_eq_iff]; exact hhas h
 obtain ⟨P, hP⟩ : ∃ P, P = pos k l := ⟨_, rfl⟩
 rw [← hP] at hple hlo hhas hnot ⊢
 have HA := Lib.hid hA
 have Hlo := Lib.hid hlo
 have Hcmp := Lib.hid hcmp
 have Hfin := Lib.hid hfin
 have Hnot := Lib.hid hnot
 have HP := Lib.hid hP
 have B0 := Lib.hid (Below.refl w.heap.size w)
 clear hA hlo hcmp hhas hnot hfin hs hP
 obtain ⟨T, hT⟩ : ∃ T, T = str k := ⟨_, rfl⟩
 rw [← hT] at Hcmp ⊢
 clear hT
 go_enter Tryz.func191, Tryz.ntmps191
 go_wp2_with fail
 go_loopw [9, 10] (fun a b wr => ∃ lo hi : Nat, a = .int .i64 lo ∧ b = .int .i64 hi ∧ lo ≤ P ∧ P ≤ hi ∧ hi ≤ l.length ∧ Hid (Below w.heap.size w wr)) (fun a b _ => (intOf b).toNat - (intOf a).toNat)
 case atStart => exact ⟨0, l.length, rfl, rfl, Nat.zero_le _, hple, Nat.le_refl _, B0⟩
 case round =>
  clear B0
  obtain ⟨lo, hi, rfl, rfl, h1, h2, h3, hb⟩ := hrel
  by_cases hlt : lo < hi
  · have d1 : decide ((lo : Int) < (hi : Int)) = true := by simpa using hlt
    obtain ⟨m, hm⟩ : ∃ m, m = (lo + hi) / 2 := ⟨_, rfl⟩
    have hm1 : m < l.length := by omega
    have hm2 : lo ≤ m ∧ m < hi := by omega
    obtain ⟨b0, off, rfl, hbl, hcell⟩ := HA.out (by omega)
    have hx := fun r u (hr : (l[m]).cells[r]? = some u) => (hb.out.cell (p := ⟨b0, off + m * 4 + r, none⟩) hbl).trans (hcell m _ (List.getElem?_eq_getElem hm1) r u hr)
    have hc := Hcmp.out m hm1
    have hcl := cmp_lt_iff (l[m]).key k
    have hll := Hlo.out m hm1
    have hbw : b0 < wr.heap.size := Nat.lt_of_lt_of_le hbl hb.out.size
    obtain ⟨x, hx0⟩ : ∃ x, x = l[m] := ⟨_, rfl⟩
    rw [← hx0] at hx hc hcl hll
    obtain ⟨key, v, b, z⟩ := x
    simp only [Cel.v] at hc
    simp only at hcl hll
    have c0 := hx 0 _ rfl
    have c1 := hx 1 _ rfl
    have c2 := hx 2 _ rfl
    have c3 := hx 3 _ rfl
    simp only [Nat.add_zero] at c0
    have hmi : ((lo : Int) + (hi : Int)) / 2 = (m : Int) := by omega
    generalize Lib.compareBytes key k = r at *
    clear hx hcell hx0 hm
    go_wp2_with fail
    with_reducible refine (hc _).mono ?_
    rintro e w2 ⟨rfl, hb2⟩
    have B2 := Lib.hid (below_base hb.out hb.out.size hb2)
    clear hb hb2 hc c0 c1 c2 c3 hbw
    by_cases hr : r < 0
    · have d2 : decide (r < 0) = true := by simpa using hr
      have hmP : m < P := hll.1 (hcl.1 hr)
      have i1 : IntKind.i64.wrap ((m : Int) + 1) = (m : Int) + 1 := IntWalk.i64_in _ (by omega)
      clear hcl hll hmi
      go_wp2_with fail
      refine ⟨⟨m + 1, hi, by simp, rfl, by omega, h2, h3, B2⟩, ?_⟩
      clear i1
      simp [intOf]; omega
    · have d2 : decide (r < 0) = false := by simpa using hr
      have hmP : P ≤ m := by
       rcases Nat.lt_or_ge m P with h | h
       · exact absurd (hcl.2 (hll.2 h)) hr
       · exact h
      clear hcl hll hmi
      go_wp2_with fail
      refine ⟨⟨lo, m, rfl, rfl, h1, hmP, by omega, B2⟩, ?_⟩
      simp [intOf]; omega
  · obtain rfl : lo = hi := by omega
    obtain rfl : lo = P := by omega
    by_cases hin : lo < l.length
    · have hfin := Hfin.out (by rw [← HP.out]; exact hin)
      have hcmp0 := Hcmp.out lo hin
      have hget : l[lo] = l[pos k l]'(by rw [← HP.out]; exact hin) := by congr 1
      obtain ⟨b0, off, rfl, hbl, hcell⟩ := HA.out (by omega)
      have hx := fun r u (hr : (l[lo]).cells[r]? = some u) => (hb.out.cell (p := ⟨b0, off + lo * 4 + r, none⟩) hbl).trans (hcell lo _ (List.getElem?_eq_getElem hin) r u hr)
      rw [← hget] at hfin
      have hbw : b0 < wr.heap.size := Nat.lt_of_lt_of_le hbl hb.out.size
      have d1 : decide ((lo : Int) < (l.length : Int)) = true := by simpa using hin
      have hin' : (lo : Int) < (l.length : Int) := by omega
      obtain ⟨x, hx0⟩ : ∃ x, x = l[lo] := ⟨_, rfl⟩
      rw [← hx0] at hx hcmp0 hfin
      obtain ⟨key, v, b, z⟩ := x
      simp only [Cel.v] at hcmp0
      simp only at hfin
      have c0 := hx 0 _ rfl
      have c1 := hx 1 _ rfl
      have c2 := hx 2 _ rfl
      have c3 := hx 3 _ rfl
      simp only [Nat.add_zero] at c0
      generalize Lib.compareBytes key k = r at *
      have HF := Lib.hid hfin
      clear hx hcell hx0 hfin hget
      go_wp2_with fail
      with_reducible refine (hcmp0 _).mono ?_
      rintro e w2 ⟨rfl, hb2⟩
      have B2 := Lib.hid (below_base hb.out hb.out.size hb2)
      clear hb hb2 hcmp0 c0 c1 c2 c3 hbw
      go_wp2_with fail
      go_ret2
      exact ⟨by rw [HF.out]; rfl, B2.out⟩
    · have d1 : decide ((lo : Int) < (l.length : Int)) = false := by simpa using hin
      have d2 : decide (has k l) = false := decide_eq_false (Hnot.out hin)
      have D2 := Lib.hid d2
      clear d2
      go_wp2_with fail
      go_ret2
      exact ⟨by rw [D2.out]; rfl, hb.out⟩
theorem at_any (A : Option Addr) (n cap : Nat) (l : List Cel) (k : List UInt8) (w : World) (hn : n = l.length) (hA : Cels w A l) (hs : Sorted l) (hl : l.length ≤ 200) :
 Calls Tryz.prog 138 #[.slice A n cap, .string (str k)] w fun e w' => e = .returned (.tuple #[.int .i64 (pos k l), .bool (decide (has k l))]) ∧ Below w.heap.size w w' := by
 subst hn
 have h := bsearch_any A cap l k w hA hs hl
 generalize pos k l = P at *
 generalize decide (has k l) = H at *
 generalize str k = T at *
 generalize l.length = N at *
 clear hA hs hl
 go_enter Tryz.func138, Tryz.ntmps138
 go_wp2_with fail
 with_reducible refine h.mono ?_
 rintro e w1 ⟨rfl, hb⟩
 go_wp2_with fail
 go_ret2
 exact ⟨rfl, hb⟩
set_option maxRecDepth 100000 in
theorem bcells_ok (p : Pag) (l : List Cel) (hp : Bkt p l) (w : World) :
 Calls Tryz.prog 137 #[p.v] w fun e w' => ∃ A cap, e = .returned (.tuple #[.slice A l.length cap, .bool true]) ∧ w'.ownsRow w.heap.size 33 4 (.slice A l.length cap) l.length (flatC l) ∧ Below w.heap.size w w' := by
 have hget := cget_ok l hp.fits
 have hk := hp.k
 have hb := hp.body
 obtain ⟨k, d, x, body⟩ := p
 simp only at hk hb
 subst hb
 simp only [Pag.v]
 obtain ⟨S, hS⟩ : ∃ S, S = str (bodyF l) := ⟨_, rfl⟩
 rw [← hS] at hget ⊢
 have hc := blk_cell (heap_alloc_new w (.cells #[.int .i64 k, .int .i64 d, .int .i64 x, .string S] 113))
 have hb := below_al (Below.refl _ w) (.cells #[.int .i64 k, .int .i64 d, .int .i64 x, .string S] 113)
 clear hS hp
 rcases hk with rfl | rfl
 · go_enter Tryz.func137, Tryz.ntmps137
   go_wp2_with fail
   with_reducible refine (hget _).mono ?_
   rintro e w1 ⟨A, cap, rfl, ho, hb1⟩
   have O := Lib.hid (row_mono ho (show w.heap.size ≤ _ by simp))
   have B := Lib.hid (below_tr hb hb1)
   clear ho hb1 hget hb
   go_wp2_with fail
   go_ret2
   exact ⟨A, cap, rfl, O.out, B.out⟩
 · go_enter Tryz.func137, Tryz.ntmps137
   go_wp2_with fail
   with_reducible refine (hget _).mono ?_
   rintro e w1 ⟨A, cap, rfl, ho, hb1⟩
   have O := Lib.hid (row_mono ho (show w.heap.size ≤ _ by simp))
   have B := Lib.hid (below_tr hb hb1)
   clear ho hb1 hget hb
   go_wp2_with fail
   go_ret2
   exact ⟨A, cap, rfl, O.out, B.out⟩
set_option maxRecDepth 100000 in
theorem bCells_ok (p : Pag) (l : List Cel) (hp : Bkt p l) (w : World) :
 Calls Tryz.prog 144 #[p.v] w fun e w' => ∃ A cap, e = .returned (.slice A l.length cap) ∧ w'.ownsRow w.heap.size 33 4 (.slice A l.length cap) l.length (flatC l) ∧ Below w.heap.size w w' := by
 have hget := bcells_ok p l hp
 obtain ⟨k, d, x, body⟩ := p
 simp only [Pag.v] at hget ⊢
 obtain ⟨S, hS⟩ : ∃ S, S = str body := ⟨_, rfl⟩
 rw [← hS] at hget ⊢
 have hc := blk_cell (heap_alloc_new w (.cells #[.int .i64 k, .int .i64 d, .int .i64 x, .string S] 113))
 have hb := below_al (Below.refl _ w) (.cells #[.int .i64 k, .int .i64 d, .int .i64 x, .string S] 113)
 clear hS hp
 go_enter Tryz.func144, Tryz.ntmps144
 go_wp2_with fail
 with_reducible refine (hget _).mono ?_
 rintro e w1 ⟨A, cap, rfl, ho, hb1⟩
 have O := Lib.hid (row_mono ho (show w.heap.size ≤ _ by simp))
 have B := Lib.hid (below_tr hb hb1)
 clear ho hb1 hget hb
 go_wp2_with fail
 go_ret
 exact ⟨A, cap, rfl, O.out, B.out⟩
end Go.Proofs.YtijhamllnnilbaaGreatDoor.Ha
namespace Go.Proofs.YtijhamllnnilbaaGreatDoor.Ha
open Go.RowKit Go.Proofs.YtijhamllnnilbaaGreatDoor.Mem Go.Proofs.YtijhamllnnilbaaGreatDoor.Pg Go.Proofs.YtijhamllnnilbaaGreatDoor.Kp Go.Proofs.YtijhamllnnilbaaGreatDoor.Sp Go.Proofs.YtijhamllnnilbaaGreatDoor.Gr
set_option linter.unusedSimpArgs false
set_option linter.unusedVariables false
theorem splice_take {α : Type} (L : List α) (off : Nat) (cs : List α) (h : off ≤ L.length) : (splice L off cs).take off = L.take off := by
 unfold splice
 rw [List.take_append_of_le_length (by rw [List.length_take]; omega), List.take_take, Nat.min_self]
theorem splice_drop {α : Type} (L : List α) (off : Nat) (cs : List α) (h : off ≤ L.length) : (splice L off cs).drop off = cs ++ L.drop (off + cs.length) := by
 unfold splice
 have e : (L.take off).length = off := by rw [List.length_take]; omega
 rw [List.drop_append, List.drop_eq_nil_of_le (by omega), e, Nat.sub_self]
 rfl
theorem splice_two {P C D R cur : List Value} (hc : cur = P ++ R) (hR : C.length + D.length ≤ R.length) :
 ∃ X, splice (splice cur P.length C) (P.length + C.length) D = P ++ (C ++ (D ++ X)) := by
 subst hc
 have e1 : splice (P ++ R) P.length C = P ++ (C ++ R.drop C.length) := by
  unfold splice
  rw [List.take_left, List.drop_append, List.drop_eq_nil_of_le (by omega)]
  simp
 rw [e1]
 refine ⟨(R.drop C.length).drop D.length, ?_⟩
 unfold splice
 have e2 : (P ++ (C ++ R.drop C.length)).take (P.length + C.length) = P ++ C := by
  rw [← List.append_assoc, List.take_left' (by simp)]
 have e3 : (P ++ (C ++ R.drop C.length)).drop (P.length + C.length + D.length) = (R.drop C.length).drop D.length := by
  rw [← List.append_assoc, List.drop_append, List.drop_eq_nil_of_le (by simp)]
  simp only [List.nil_append, List.length_append]
  congr 1; omega
 rw [e2, e3]
 simp
theorem splice_two' {P C D R cur : List Value} (hc : cur = P ++ R) (hR : C.length + D.length ≤ R.length) :
 ∃ X, splice (splice cur (P.length + C.length) D) P.length C = P ++ (C ++ (D ++ X)) := by
 subst hc
 refine ⟨R.drop (C.length + D.length), ?_⟩
 have hl : P.length + C.length ≤ (P ++ R).length := by rw [List.length_append]; omega
 have e1 : (splice (P ++ R) (P.length + C.length) D).take P.length = P := by
  have h := congrArg (List.take P.length) (splice_take (P ++ R) (P.length + C.length) D hl)
  rw [List.take_take, List.take_take, Nat.min_eq_left (by omega)] at h
  rw [h]; exact List.take_left
 have e2 := splice_drop (P ++ R) (P.length + C.length) D hl
 conv => lhs; unfold splice
 unfold splice at e1 e2
 rw [e1, e2, List.drop_append, List.drop_eq_nil_of_le (by omega)]
 simp only [List.nil_append]
 congr 4
 omega
theorem keep_setRow {S : Nat → Prop} {a b : World} (h : Keep S a b) {g : Nat} (k : S g ∨ a.heap.size ≤ g) (cs : Array Value) : Keep S a (b.setRow g cs) :=
 ⟨h.os, h.tape, h.output, by simpa using h.size, fun i hi hs => by
  rw [setRow_other _ _ _ _ (show i ≠ g from fun e => by subst e; rcases k with k | k; exact hs k; omega)]
  exact h.block i hi hs⟩
theorem run_copy_s {P : Program} (k : Nat) (w : World) (dT sT ty elem : TypeId) (g o dLen dCap : Nat) (a : Addr) (sLen sCap : Nat) (cur : List Value) (t : TypeId) (cs : List Value)
 (hu : P.underlying dT = some (.slice elem)) (hs : (P.info? elem).map (·.size) = some k)
 (hg : w.heap[g]? = some (.cells cur.toArray t (0, 0))) (hn : cs.length = Nat.min sLen dLen * k)
 (hsrc : ∀ j v, cs[j]? = some v → w.cell? (a.add j) = some v) (hfit : o + cs.length ≤ cur.length) (h1 : ∀ v ∈ cs, v.oneCell' = true) :
 (Builtin.copy_ #[dT, sT] ty #[.slice (some ⟨g, o, none⟩) dLen dCap, .slice (some a) sLen sCap]).run P w = .ok (goInt (Nat.min sLen dLen)) (w.setRow g (splice cur o cs).toArray) := by
 have := run_copy_k k w dT sT ty elem g o dLen dCap a sLen sCap cur.toArray t cs hu hs hg hn hsrc (by simpa using hfit) h1
 simpa [splice] using this
theorem cel_one (l : List Cel) : ∀ v ∈ flatC l, v.oneCell' = true := by
 intro v hv
 obtain ⟨c, _, hc⟩ := List.mem_flatMap.1 hv
 simp [Cel.cells] at hc
 rcases hc with rfl | rfl | rfl | rfl <;> rfl
theorem size_cell : (Tryz.prog.info? 33).map (·.size) = some 4 := by kernel_rfl
set_option maxRecDepth 100000 in
set_option maxHeartbeats 4000000 in
theorem insert_end (w : World) (base : Nat) (ov : Value) (l : List Cel) (c : Cel) (vb : Nat) (ho : w.ownsRow base 33 4 ov l.length (flatC l)) (hl : l.length ≤ 200) (hb : base ≤ w.heap.size)
 (hv : w.heap[vb]? = some (.cells c.cells.toArray 33 (0, 0))) :
 Calls Tryz.prog 139 #[ov, .int .i64 l.length, .slice (some ⟨vb, 0, none⟩) 1 1] w fun e w' =>
  ∃ v', e = .returned v' ∧ w'.ownsRow base 33 4 v' (l.length + 1) (flatC (l ++ [c])) ∧ Below base w w' := by
 obtain ⟨i0, hi, hz0, hz1, hz2⟩ := info_parts info_cell
 have hcells : ∀ j u, (c.cells)[j]? = some u → w.cell? ((⟨vb, 0, none⟩ : Addr).add j) = some u := fun j u hj => by
  have ha : (⟨vb, 0, none⟩ : Addr).add j = ⟨vb, j, none⟩ := by unfold Addr.add; split <;> simp_all
  rw [ha, blk_cell hv j]
  simpa using hj
 have hone : ∀ u ∈ c.cells, u.oneCell' = true := fun u hu => by simp [Cel.cells] at hu; rcases hu with rfl | rfl | rfl | rfl <;> rfl
 have hfl : flatC (l ++ [c]) = flatC l ++ c.cells := by rw [flatC_append]; simp [flatC]
 rw [hfl]
 obtain ⟨A, cap, rfl⟩ := own_slice ho
 have hle : l.length ≤ cap := by
  rcases ho.2 with ⟨h1, h2⟩ | ⟨_, _, _, h0, _, _, h1, _⟩
  · omega
  · injection h0 with _ _ h3; omega
 have hcap : cap ≤ 9223372036854775807 := by
  rcases ho.2 with ⟨h1, h2⟩ | ⟨_, _, _, h0, _, _, h1, h2, _⟩
  · injection h1 with _ _ h3; omega
  · injection h0 with _ _ h3; unfold maxLen at h2; omega
 have ho' := Lib.hid ho
 have H1 := Lib.hid hcells
 have H2 := Lib.hid hone
 obtain ⟨C, hC⟩ : ∃ C, C = c.cells := ⟨_, rfl⟩
 have hCl : C.length = 4 := by rw [hC]; rfl
 rw [← hC] at H1 H2 ⊢
 obtain ⟨F, hF⟩ : ∃ F, F = flatC l := ⟨_, rfl⟩
 rw [← hF] at ho' ⊢
 generalize l.length = n at *
 clear hcells hone hfl hv ho hC hF
 go_enter Tryz.func139, Tryz.ntmps139
 go_wp2_with (at_builtin; refine wpList_append_own _ rfl (.tmp 23) (.tmp 24) _ rfl base 33 i0 (.agg #[.string ⟨#[]⟩, .string ⟨#[]⟩, .int .i64 0, .int .i64 0]) 4 48 Tryz.underlying142 hi hz0 hz1 hz2 rfl (by decide) _ n F rfl ho'.out ⟨vb, 0, none⟩ 1 1 C rfl hCl H1.out H2.out (by unfold maxLen; omega) (by omega) hb ?_; intro v' w4 hown4 hgrow _)
 all_goals go_ret
 all_goals exact ⟨_, rfl, hown4, below_grown (Below.refl _ _) hb ho'.out hgrow⟩
set_option maxRecDepth 100000 in
set_option maxHeartbeats 8000000 in
theorem insert_room (w : World) (base g cap i n : Nat) (cur P D R : List Value) (c : Cel) (vb : Nat) (hg : w.heap[g]? = some (.cells cur.toArray 33 (0, 0))) (hbase : base ≤ g)
 (hcur : cur = P ++ (D ++ R)) (hP : P.length = i * 4) (hD : D.length = (n - i) * 4) (hin : i < n) (hn : n ≤ 200) (hcap : n + 1 ≤ cap) (hmax : cap ≤ maxLen) (hsz : cur.length = cap * 4)
 (h1P : ∀ v ∈ D, v.oneCell' = true) (hv : w.heap[vb]? = some (.cells c.cells.toArray 33 (0, 0))) (hne : vb ≠ g) :
 Calls Tryz.prog 139 #[.slice (some ⟨g, 0, none⟩) n cap, .int .i64 i, .slice (some ⟨vb, 0, none⟩) 1 1] w fun e w' =>
  e = .returned (.slice (some ⟨g, 0, none⟩) (n + 1) cap) ∧ (∃ X, w'.heap[g]? = some (.cells (P ++ (c.cells ++ (D ++ X))).toArray 33 (0, 0)) ∧ (P ++ (c.cells ++ (D ++ X))).length = cap * 4) ∧ Keep (fun j => j = g) w w' ∧ w'.heap.size = w.heap.size := by
 have hone : ∀ u ∈ c.cells, u.oneCell' = true := fun u hu => by simp [Cel.cells] at hu; rcases hu with rfl | rfl | rfl | rfl <;> rfl
 have hvc : ∀ (W : World), W.heap[vb]? = w.heap[vb]? → ∀ j u, (c.cells)[j]? = some u → W.cell? ((⟨vb, 0, none⟩ : Addr).add j) = some u := fun W hW j u hj => by
  have ha : (⟨vb, 0, none⟩ : Addr).add j = ⟨vb, j, none⟩ := by unfold Addr.add; split <;> simp_all
  rw [ha, blk_cell (hW.trans hv) j]
  simpa using hj
 obtain ⟨C, hC⟩ : ∃ C, C = c.cells := ⟨_, rfl⟩
 have hCl : C.length = 4 := by rw [hC]; rfl
 rw [← hC] at hone hvc hv ⊢
 have hov : ∀ lb cb, (callFunc 193 #[.slice (some ⟨vb, 0, none⟩) 1 1, .slice (some ⟨g, (i + 1) * 4, none⟩) lb cb]).run Tryz.prog w = .ok (.value (.bool false)) w := fun lb cb => by
  rw [run_callFunc_extern Tryz.func193 (by kernel_rfl) (by kernel_rfl) (by kernel_rfl) (e := Extern.SlicesOverlaps.overlaps #[142, 142] #[4]) (by kernel_rfl),
   Lib.run_overlaps_apart w 142 4 33 Tryz.underlying142 4 Tryz.sizeOf33 ⟨vb, 0, none⟩ ⟨g, (i + 1) * 4, none⟩ 1 1 lb cb hne 33 33 C.length cur.length (by simp [World.shape?, hv]) (by simp [World.shape?, hg]) (by omega) (blk_free hv _) (blk_free hv _)]
  rfl
 have hcp1 : ∀ ty dc sc, (Builtin.copy_ #[142, 142] ty #[.slice (some ⟨g, (i + 1) * 4, none⟩) (n - i) dc, .slice (some ⟨g, i * 4, none⟩) (n + 1 - i) sc]).run Tryz.prog w.drew = .ok (goInt (Nat.min (n + 1 - i) (n - i))) (w.drew.setRow g (splice cur (P.length + C.length) D).toArray) := fun ty dc sc => by
  rw [show P.length + C.length = (i + 1) * 4 by omega]
  refine run_copy_s 4 w.drew _ _ ty 33 g ((i + 1) * 4) _ dc ⟨g, i * 4, none⟩ _ sc cur _ D Tryz.underlying142 size_cell hg ?_ (fun j v hj => ?_) ?_ h1P
  · rw [hD, show Nat.min (n + 1 - i) (n - i) = n - i from by show min _ _ = _; omega]
  · rw [Addr.add_lit]
    have := blk_cell hg (i * 4 + j)
    refine (show _ = _ from this).trans ?_
    simp only [List.getElem?_toArray]
    rw [hcur, List.getElem?_append_right (by omega), List.getElem?_append_left (by have := (List.getElem?_eq_some_iff.1 hj).1; omega), ← hj]
    congr 1; omega
  · have := congrArg List.length hcur
    simp at this
    omega
 obtain ⟨W1, hW1⟩ : ∃ W1, W1 = w.drew.setRow g (splice cur (P.length + C.length) D).toArray := ⟨_, rfl⟩
 have hg1 : W1.heap[g]? = some (.cells (splice cur (P.length + C.length) D).toArray 33 (0, 0)) := hW1 ▸ setRow_heap w.drew g _ _ _ _ hg
 have hv1 : W1.heap[vb]? = w.heap[vb]? := hW1 ▸ setRow_other _ _ _ _ hne
 have hl1 : (splice cur (P.length + C.length) D).length = cur.length := length_splice _ _ _ (by have := congrArg List.length hcur; simp at this; omega)
 have hcp2 : ∀ ty dc, (Builtin.copy_ #[142, 142] ty #[.slice (some ⟨g, i * 4, none⟩) (n + 1 - i) dc, .slice (some ⟨vb, 0, none⟩) 1 1]).run Tryz.prog W1 = .ok (goInt (Nat.min 1 (n + 1 - i))) (W1.setRow g (splice (splice cur (P.length + C.length) D) P.length C).toArray) := fun ty dc => by
  rw [show P.length = i * 4 from hP]
  refine run_copy_s 4 W1 _ _ ty 33 g (i * 4) _ dc ⟨vb, 0, none⟩ 1 1 _ _ C Tryz.underlying142 size_cell (by rw [← hP]; exact hg1) ?_ (hvc W1 hv1) ?_ hone
  · rw [hCl, show Nat.min 1 (n + 1 - i) = 1 from by show min _ _ = _; omega]
  · rw [← hP, hl1, hsz, hP]; omega
 obtain ⟨X, hX⟩ := splice_two' (C := C) (D := D) hcur (by rw [List.length_append]; have := congrArg List.length hcur; simp at this; omega)
 have hlen : (P ++ (C ++ (D ++ X))).length = cap * 4 := by
  rw [← hX, length_splice _ _ _ (by rw [hl1]; omega), hl1, hsz]
 have hfin : (W1.setRow g (splice (splice cur (P.length + C.length) D) P.length C).toArray).heap[g]? = some (.cells (P ++ (C ++ (D ++ X))).toArray 33 (0, 0)) := by
  rw [← hX]; exact setRow_heap _ _ _ _ _ _ hg1
 have hkeep : Keep (fun j => j = g) w (W1.setRow g (splice (splice cur (P.length + C.length) D) P.length C).toArray) := keep_setRow (S := fun j => j = g) (hW1 ▸ keep_setRow (S := fun j => j = g) (Keep.refl _ w).drew (.inl rfl) _) (.inl rfl) _
 have hsize : (W1.setRow g (splice (splice cur (P.length + C.length) D) P.length C).toArray).heap.size = w.heap.size := by rw [hW1]; simp
 generalize splice (splice cur (P.length + C.length) D) P.length C = r2 at *
 rw [← hW1] at hcp1
 have HF := Lib.hid hfin
 have HK := Lib.hid hkeep
 have HS := Lib.hid hsize
 have HL := Lib.hid hlen
 have hcap' : cap ≤ 9223372036854775807 := by unfold maxLen at hmax; omega
 have b1 : ¬ (cap = i + 1) := by omega
 have b2 : ¬ (cap = i) := by omega
 have b3 : (n : Int) + 1 ≤ (cap : Int) := by omega
 have b4 : ¬ ((i : Int) = (n : Int)) := by omega
 have b6 : (i : Int) ≤ (n : Int) + 1 := by omega
 have b7 : IntKind.i64.wrap ((i : Int) + 1) = (i : Int) + 1 := IntWalk.i64_in _ (by omega)
 have b8 : ((i : Int) + 1).toNat = i + 1 := by omega
 have b9 : (0 : Int) ≤ (i : Int) + 1 := by omega
 have b10 : (i : Int) + 1 ≤ (n : Int) + 1 := by omega
 have b11 : (i : Int) ≤ (n : Int) := by omega
 clear hfin hkeep hsize hlen hX hg1 hv1 hl1 hW1 hcur hP hD hsz h1P hv hvc hone hg
 go_enter Tryz.func139, Tryz.ntmps139
 go_wp2_with (simp only [hov])
 go_region_law (refine step_copy_runI rfl _ _ 142 142 rfl _ _ (by simp [Act.eval, Act.put]) (by simp [Act.eval, Act.put]) (hcp1 _ _ _) ?_)
 go_wp2_with (at_builtin; refine wpList_copy_runI _ rfl _ _ 142 142 rfl _ _ rfl rfl (hcp2 _ _) ?_)
 go_ret
 exact ⟨rfl, ⟨X, HF.out, HL.out⟩, HK.out, HS.out⟩
set_option maxRecDepth 100000 in
set_option maxHeartbeats 8000000 in
theorem insert_grow (w : World) (g cap i n : Nat) (cur P D R : List Value) (c : Cel) (vb : Nat) (hg : w.heap[g]? = some (.cells cur.toArray 33 (0, 0)))
 (hcur : cur = P ++ (D ++ R)) (hP : P.length = i * 4) (hD : D.length = (n - i) * 4) (hin : i < n) (hn : n ≤ 200) (hnc : n ≤ cap) (hcap : cap < n + 1) (hmax : cap ≤ maxLen)
 (h1P : ∀ v ∈ D, v.oneCell' = true) (hv : w.heap[vb]? = some (.cells c.cells.toArray 33 (0, 0))) :
 Calls Tryz.prog 139 #[.slice (some ⟨g, 0, none⟩) n cap, .int .i64 i, .slice (some ⟨vb, 0, none⟩) 1 1] w fun e w' =>
  ∃ cap' X, e = .returned (.slice (some ⟨w.heap.size, 0, none⟩) (n + 1) cap') ∧ n + 1 ≤ cap' ∧ cap' ≤ maxLen ∧ w'.heap[w.heap.size]? = some (.cells (P ++ (c.cells ++ (D ++ X))).toArray 33 (0, 0)) ∧ (P ++ (c.cells ++ (D ++ X))).length = cap' * 4 ∧ Below w.heap.size w w' := by
 obtain ⟨i0, hi0, hz0, hzs, hzb⟩ := info_parts info_cell
 have hone : ∀ u ∈ c.cells, u.oneCell' = true := fun u hu => by simp [Cel.cells] at hu; rcases hu with rfl | rfl | rfl | rfl <;> rfl
 have hvc : ∀ (W : World), W.heap[vb]? = w.heap[vb]? → ∀ j u, (c.cells)[j]? = some u → W.cell? ((⟨vb, 0, none⟩ : Addr).add j) = some u := fun W hW j u hj => by
  have ha : (⟨vb, 0, none⟩ : Addr).add j = ⟨vb, j, none⟩ := by unfold Addr.add; split <;> simp_all
  rw [ha, blk_cell (hW.trans hv) j]
  simpa using hj
 obtain ⟨C, hC⟩ : ∃ C, C = c.cells := ⟨_, rfl⟩
 have hCl : C.length = 4 := by rw [hC]; rfl
 rw [← hC] at hone hvc hv ⊢
 have hgw := lt_of_block hg
 have hvw := lt_of_block hv
 have hcl : cur.length = P.length + (D.length + R.length) := by rw [hcur]; simp
 have hold : (Builtin.firstCells i0.size i (.slice (some ⟨g, 0, none⟩) i cap)).run Tryz.prog w.drew = .ok P.toArray w.drew := by
  rw [hzs]
  refine run_firstCells_some w.drew 4 i ⟨g, 0, none⟩ i cap P hP (fun j v hj => ?_)
  rw [Addr.add_lit]
  refine (blk_cell (w := w.drew) hg (0 + j)).trans ?_
  simp only [List.getElem?_toArray, Nat.zero_add]
  rw [hcur, List.getElem?_append_left (List.getElem?_eq_some_iff.1 hj).1, hj]
 have hik : i + (n + 1 - i) = n + 1 := by omega
 have hrz : ∀ ty, (Builtin.append_ #[142, 3] ty #[.slice (some ⟨g, 0, none⟩) i cap, .int .i64 ((n : Int) + 1 - (i : Int))]).run Tryz.prog w =
  .ok (.slice (some ⟨w.heap.size, 0, none⟩) (n + 1) (grownCap w (n + 1) cap 33)) (w.drew.alloc (.cells (P.toArray ++ Builtin.zeroCells (Value.agg #[.string ⟨#[]⟩, .string ⟨#[]⟩, .int .i64 0, .int .i64 0]).cells (n + 1 - i) ++ Builtin.zeroCells (Value.agg #[.string ⟨#[]⟩, .string ⟨#[]⟩, .int .i64 0, .int .i64 0]).cells (grownCap w (n + 1) cap 33 - (n + 1))) 33)) := fun ty => by
  have h := Lib.run_append_grow_zeros w 142 3 ty 33 i0 _ .i64 .i64 Tryz.underlying142 Tryz.underlying3 hi0 hz0 (some ⟨g, 0, none⟩) i cap P hold (n + 1 - i) (by omega) (by omega) (by omega) (by omega) (by rw [hzb]; omega) (by rw [hzb, hik]; exact growslice_fits hcap (by omega))
  rw [hik] at h
  rw [show (n : Int) + 1 - (i : Int) = ((n + 1 - i : Nat) : Int) by omega]
  exact h
 have hGn := grownCap_ge w (n + 1) cap 33
 have hGm := grownCap_le_maxLen w (n + 1) cap 33 (by unfold maxLen; omega)
 obtain ⟨G, hG⟩ : ∃ G, G = grownCap w (n + 1) cap 33 := ⟨_, rfl⟩
 rw [← hG] at hrz hGn hGm
 obtain ⟨Z, hZ⟩ : ∃ Z : List Value, Z = (Builtin.zeroCells (Value.agg #[.string ⟨#[]⟩, .string ⟨#[]⟩, .int .i64 0, .int .i64 0]).cells (n + 1 - i)).toList ++ (Builtin.zeroCells (Value.agg #[.string ⟨#[]⟩, .string ⟨#[]⟩, .int .i64 0, .int .i64 0]).cells (G - (n + 1))).toList := ⟨_, rfl⟩
 have hZl : Z.length = (G - i) * 4 := by
  rw [hZ]
  simp only [List.length_append, Array.length_toList, size_zeroCells]
  have e4 : (Value.agg #[.string ⟨#[]⟩, .string ⟨#[]⟩, .int .i64 0, .int .i64 0]).cells.size = 4 := by kernel_rfl
  rw [e4]; omega
 have hrow : P.toArray ++ Builtin.zeroCells (Value.agg #[.string ⟨#[]⟩, .string ⟨#[]⟩, .int .i64 0, .int .i64 0]).cells (n + 1 - i) ++ Builtin.zeroCells (Value.agg #[.string ⟨#[]⟩, .string ⟨#[]⟩, .int .i64 0, .int .i64 0]).cells (G - (n + 1)) = (P ++ Z).toArray := by
  rw [hZ]; apply Array.ext'; simp
 rw [hrow] at hrz
 obtain ⟨W1, hW1⟩ : ∃ W1, W1 = w.drew.alloc (.cells (P ++ Z).toArray 33) := ⟨_, rfl⟩
 rw [← hW1] at hrz
 have hb1 : Below w.heap.size w W1 := hW1 ▸ below_al (below_dr (Below.refl _ w)) _
 have hr1 : W1.heap[w.heap.size]? = some (.cells (P ++ Z).toArray 33 (0, 0)) := hW1 ▸ heap_alloc_new w.drew _
 have hg1 : W1.heap[g]? = w.heap[g]? := hb1.block _ hgw
 have hv1 : W1.heap[vb]? = w.heap[vb]? := hb1.block _ hvw
 have hcpA : ∀ ty dc, (Builtin.copy_ #[142, 142] ty #[.slice (some ⟨w.heap.size, i * 4, none⟩) (n + 1 - i) dc, .slice (some ⟨vb, 0, none⟩) 1 1]).run Tryz.prog W1 = .ok (goInt (Nat.min 1 (n + 1 - i))) (W1.setRow w.heap.size (splice (P ++ Z) P.length C).toArray) := fun ty dc => by
  rw [show P.length = i * 4 from hP]
  refine run_copy_s 4 W1 _ _ ty 33 w.heap.size (i * 4) _ dc ⟨vb, 0, none⟩ 1 1 _ _ C Tryz.underlying142 size_cell hr1 ?_ (hvc W1 hv1) ?_ hone
  · rw [hCl, show Nat.min 1 (n + 1 - i) = 1 from by show min _ _ = _; omega]
  · rw [List.length_append, hZl, hP]; omega
 obtain ⟨W2, hW2⟩ : ∃ W2, W2 = W1.setRow w.heap.size (splice (P ++ Z) P.length C).toArray := ⟨_, rfl⟩
 rw [← hW2] at hcpA
 have hr2 : W2.heap[w.heap.size]? = some (.cells (splice (P ++ Z) P.length C).toArray 33 (0, 0)) := hW2 ▸ setRow_heap _ _ _ _ _ _ hr1
 have hg2 : W2.heap[g]? = w.heap[g]? := hW2 ▸ (setRow_other _ _ _ _ (by omega)).trans hg1
 have hb2 : Below w.heap.size w W2 := hW2 ▸ below_setRow hb1 (Nat.le_refl _) _
 have hl2 : (splice (P ++ Z) P.length C).length = G * 4 := by
  rw [length_splice _ _ _ (by rw [List.length_append]; omega), List.length_append, hZl, hP]; omega
 have hcpB : ∀ ty dc sc, (Builtin.copy_ #[142, 142] ty #[.slice (some ⟨w.heap.size, (i + 1) * 4, none⟩) (n - i) dc, .slice (some ⟨g, i * 4, none⟩) (n - i) sc]).run Tryz.prog W2.drew = .ok (goInt (Nat.min (n - i) (n - i))) (W2.drew.setRow w.heap.size (splice (splice (P ++ Z) P.length C) (P.length + C.length) D).toArray) := fun ty dc sc => by
  rw [show P.length + C.length = (i + 1) * 4 by omega]
  refine run_copy_s 4 W2.drew _ _ ty 33 w.heap.size ((i + 1) * 4) _ dc ⟨g, i * 4, none⟩ _ sc _ _ D Tryz.underlying142 size_cell hr2 ?_ (fun j v hj => ?_) ?_ h1P
  · rw [hD, show Nat.min (n - i) (n - i) = n - i from by show min _ _ = _; omega]
  · rw [Addr.add_lit]
    refine (blk_cell (w := W2.drew) (hg2.trans hg) (i * 4 + j)).trans ?_
    simp only [List.getElem?_toArray]
    rw [hcur, List.getElem?_append_right (by omega), List.getElem?_append_left (by have := (List.getElem?_eq_some_iff.1 hj).1; omega), ← hj]
    congr 1; omega
  · rw [hl2]; omega
 obtain ⟨X, hX⟩ := splice_two (P := P) (C := C) (D := D) (R := Z) (cur := P ++ Z) rfl (by rw [hZl]; omega)
 have hlen : (P ++ (C ++ (D ++ X))).length = G * 4 := by
  rw [← hX, length_splice _ _ _ (by rw [hl2]; omega), hl2]
 have hfin : (W2.drew.setRow w.heap.size (splice (splice (P ++ Z) P.length C) (P.length + C.length) D).toArray).heap[w.heap.size]? = some (.cells (P ++ (C ++ (D ++ X))).toArray 33 (0, 0)) := by
  rw [← hX]; exact setRow_heap _ _ _ _ _ _ hr2
 have hbf : Below w.heap.size w (W2.drew.setRow w.heap.size (splice (splice (P ++ Z) P.length C) (P.length + C.length) D).toArray) := below_setRow (below_dr hb2) (Nat.le_refl _) _
 generalize splice (splice (P ++ Z) P.length C) (P.length + C.length) D = r2 at *
 have HF := Lib.hid hfin
 have HB := Lib.hid hbf
 have HL := Lib.hid hlen
 have HG := Lib.hid (And.intro hGn hGm)
 have hcap' : cap ≤ 9223372036854775807 := by unfold maxLen at hmax; omega
 have hG63 : G ≤ 9223372036854775807 := by unfold maxLen at hGm; omega
 have b1 : ¬ (G = i + 1) := by omega
 have b2 : ¬ (G = i) := by omega
 have b3 : (cap : Int) < (n : Int) + 1 := by omega
 have b4 : ¬ ((i : Int) = (n : Int)) := by omega
 have b5 : ¬ (cap = i) := by omega
 have hGn' : n + 1 ≤ G := hGn
 have b6 : (i : Int) ≤ (n : Int) + 1 := by omega
 have b7 : IntKind.i64.wrap ((i : Int) + 1) = (i : Int) + 1 := IntWalk.i64_in _ (by omega)
 have b8 : ((i : Int) + 1).toNat = i + 1 := by omega
 have b9 : (0 : Int) ≤ (i : Int) + 1 := by omega
 have b10 : (i : Int) + 1 ≤ (n : Int) + 1 := by omega
 have b11 : (i : Int) ≤ (n : Int) := by omega
 have b12 : IntKind.i64.wrap ((n : Int) + 1 - (i : Int)) = (n : Int) + 1 - (i : Int) := IntWalk.i64_in _ (by omega)
 clear hfin hbf hlen hX hg1 hv1 hr1 hr2 hg2 hb1 hb2 hl2 hW1 hW2 hcur hP hD h1P hv hvc hone hg hold hrow hZ hZl hG hGm hmax hcl
 go_enter Tryz.func139, Tryz.ntmps139
 go_wp2_with (first
  | (at_builtin; refine Lib.wpList_append_run _ rfl _ _ _ _ rfl _ _ rfl rfl _ _ (hrz _) ?_)
  | (at_builtin; refine wpList_copy_runI _ rfl _ _ 142 142 rfl _ _ rfl rfl (hcpA _ _) ?_))
 go_region_law (refine step_copy_runI rfl _ _ 142 142 rfl _ _ (by simp [Act.eval, Act.put]) (by simp [Act.eval, Act.put]) (hcpB _ _ _) ?_)
 go_wp2_with fail
 go_ret
 exact ⟨G, X, rfl, HG.out.1, HG.out.2, HF.out, HL.out, HB.out⟩
end Go.Proofs.YtijhamllnnilbaaGreatDoor.Ha
