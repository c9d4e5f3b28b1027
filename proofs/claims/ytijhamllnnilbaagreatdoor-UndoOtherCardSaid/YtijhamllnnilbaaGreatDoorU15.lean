/- Lemmas of the claim, in their order:
- The contracts of package bucket's cells, Cells, at, Find, with.
- The contract of slices.Insert at cells, of one cell that lies in a block of its own.
- The contract of slices.Delete at cells, of one cell.
- The contracts of package bucket's with, Find, Set, Cut, Room.
- The contracts of package bucket's Find, Set.
- The contracts of package bucket's Set, Cut, Room.
- The contracts of package bucket's Cut, Room.
-/
import Derived.Test.YtijhamllnnilbaaGreatDoorU07
import Derived.Test.YtijhamllnnilbaaGreatDoorU09
import Derived.Test.YtijhamllnnilbaaGreatDoorU14
import Derived.Shelf.Spec.SlicesInsertGrow
import Derived.Laws.CopyOwn
import Derived.Deep.RegionLaw
set_option linter.unusedVariables false
set_option linter.unusedSimpArgs false
namespace Go.Proofs.YtijhamllnnilbaaGreatDoor.Ha
open Go.RowKit Go.Proofs.YtijhamllnnilbaaGreatDoor.Mem Go.Proofs.YtijhamllnnilbaaGreatDoor.Pg Go.Proofs.YtijhamllnnilbaaGreatDoor.Kp Go.Proofs.YtijhamllnnilbaaGreatDoor.Sp Go.Proofs.YtijhamllnnilbaaGreatDoor.Gr
set_option linter.unusedSimpArgs false
set_option linter.unusedVariables false
instance (k : List UInt8) (l : List Cel) : Decidable (has k l) := decidable_of_iff (l.any (fun c => decide (c.key = k)) = true) (by simp [has])
/-- A bucket's page, or one behind it. -/
structure Bkt (p : Pag) (l : List Cel) : Prop where
  k : p.k = 3 ∨ p.k = 4
  body : p.l = bodyF l
  fits : Fits l
theorem atf_any (c : Cel) (k : List UInt8) (w : World) :
    Calls Tryz.prog 192 #[c.v, .string (str k)] w fun e w' => e = .returned (.int .i64 (Lib.compareBytes c.key k)) ∧ Below w.heap.size w w' := by
  obtain ⟨key, v, b, z⟩ := c
  have hcmp := fun W => Tryz.strings_Compare (str key) (str k) W
  have e1 : (str key).data.toList = key := rfl
  have e2 : (str k).data.toList = k := rfl
  rw [e1, e2] at hcmp
  simp only [Cel.v]
  have hc := blk_cell (heap_alloc_new w (celO (str key) (str v) b z))
  have hb := below_al (Below.refl _ w) (celO (str key) (str v) b z)
  generalize Lib.compareBytes key k = r at *
  generalize str key = K at *
  generalize str k = T at *
  generalize str v = V at *
  clear e1 e2
  go_enter Tryz.func192, Tryz.ntmps192
  go_wp2_with fail
  with_reducible refine (hcmp _).mono ?_
  rintro e w1 ⟨rfl, rfl⟩
  go_wp2_with fail
  go_ret
  exact ⟨rfl, hb⟩
theorem has_pos {k : List UInt8} {l : List Cel} (hs : Sorted l) (h : pos k l < l.length) : has k l ↔ (l[pos k l]).key = k := by
  rw [has_iff hs]
  exact ⟨fun ⟨_, e⟩ => e, fun e => ⟨h, e⟩⟩
theorem has_not {k : List UInt8} {l : List Cel} (hs : Sorted l) (h : ¬ pos k l < l.length) : ¬ has k l := by
  rw [has_iff hs]
  exact fun ⟨h', _⟩ => h h'
set_option maxRecDepth 100000 in
set_option maxHeartbeats 2000000 in
theorem bsearch_any (A : Option Addr) (cap : Nat) (l : List Cel) (k : List UInt8) (w : World) (hA : Cels w A l) (hs : Sorted l) (hl : l.length ≤ 200) :
    Calls Tryz.prog 191 #[.slice A l.length cap, .string (str k), .func (.func 192) #[] #[]] w fun e w' =>
      e = .returned (.tuple #[.int .i64 (pos k l), .bool (decide (has k l))]) ∧ Below w.heap.size w w' := by
  have hple := pos_le k l
  have hlo := fun i (h : i < l.length) => pos_lt (k := k) hs i h
  have hcmp := fun i (h : i < l.length) W => atf_any l[i] k W
  have hhas := has_pos (k := k) hs
  have hnot := has_not (k := k) hs
  have hfin : ∀ h : pos k l < l.length, decide (has k l) = decide (Lib.compareBytes (l[pos k l]).key k = 0) := fun h => by
    rw [decide_eq_decide, cmp_eq_iff]; exact hhas h
  obtain ⟨P, hP⟩ : ∃ P, P = pos k l := ⟨_, rfl⟩
  rw [← hP] at hple hlo hhas hnot ⊢
  have HA := Lib.hid hA
  have Hlo := Lib.hid hlo
  have Hcmp := Lib.hid hcmp
  have Hfin := Lib.hid hfin
  have Hnot := Lib.hid hnot
  have HP := Lib.hid hP
  have B0 := Lib.hid (Below.refl w.heap.size w)
  clear hA hlo hcmp hhas hnot hfin hs hP
  obtain ⟨T, hT⟩ : ∃ T, T = str k := ⟨_, rfl⟩
  rw [← hT] at Hcmp ⊢
  clear hT
  go_enter Tryz.func191, Tryz.ntmps191
  go_wp2_with fail
  go_loopw [9, 10] (fun a b wr => ∃ lo hi : Nat, a = .int .i64 lo ∧ b = .int .i64 hi ∧ lo ≤ P ∧ P ≤ hi ∧ hi ≤ l.length ∧ Hid (Below w.heap.size w wr)) (fun a b _ => (intOf b).toNat - (intOf a).toNat)
  case atStart => exact ⟨0, l.length, rfl, rfl, Nat.zero_le _, hple, Nat.le_refl _, B0⟩
  case round =>
    clear B0
    obtain ⟨lo, hi, rfl, rfl, h1, h2, h3, hb⟩ := hrel
    by_cases hlt : lo < hi
    · have d1 : decide ((lo : Int) < (hi : Int)) = true := by simpa using hlt
      obtain ⟨m, hm⟩ : ∃ m, m = (lo + hi) / 2 := ⟨_, rfl⟩
      have hm1 : m < l.length := by omega
      have hm2 : lo ≤ m ∧ m < hi := by omega
      obtain ⟨b0, off, rfl, hbl, hcell⟩ := HA.out (by omega)
      have hx := fun r u (hr : (l[m]).cells[r]? = some u) => (hb.out.cell (p := ⟨b0, off + m * 4 + r, none⟩) hbl).trans (hcell m _ (List.getElem?_eq_getElem hm1) r u hr)
      have hc := Hcmp.out m hm1
      have hcl := cmp_lt_iff (l[m]).key k
      have hll := Hlo.out m hm1
      have hbw : b0 < wr.heap.size := Nat.lt_of_lt_of_le hbl hb.out.size
      obtain ⟨x, hx0⟩ : ∃ x, x = l[m] := ⟨_, rfl⟩
      rw [← hx0] at hx hc hcl hll
      obtain ⟨key, v, b, z⟩ := x
      simp only [Cel.v] at hc
      simp only at hcl hll
      have c0 := hx 0 _ rfl
      have c1 := hx 1 _ rfl
      have c2 := hx 2 _ rfl
      have c3 := hx 3 _ rfl
      simp only [Nat.add_zero] at c0
      have hmi : ((lo : Int) + (hi : Int)) / 2 = (m : Int) := by omega
      generalize Lib.compareBytes key k = r at *
      clear hx hcell hx0 hm
      go_wp2_with fail
      with_reducible refine (hc _).mono ?_
      rintro e w2 ⟨rfl, hb2⟩
      have B2 := Lib.hid (below_base hb.out hb.out.size hb2)
      clear hb hb2 hc c0 c1 c2 c3 hbw
      by_cases hr : r < 0
      · have d2 : decide (r < 0) = true := by simpa using hr
        have hmP : m < P := hll.1 (hcl.1 hr)
        have i1 : IntKind.i64.wrap ((m : Int) + 1) = (m : Int) + 1 := IntWalk.i64_in _ (by omega)
        clear hcl hll hmi
        go_wp2_with fail
        refine ⟨⟨m + 1, hi, by simp, rfl, by omega, h2, h3, B2⟩, ?_⟩
        clear i1
        simp [intOf]; omega
      · have d2 : decide (r < 0) = false := by simpa using hr
        have hmP : P ≤ m := by
          rcases Nat.lt_or_ge m P with h | h
          · exact absurd (hcl.2 (hll.2 h)) hr
          · exact h
        clear hcl hll hmi
        go_wp2_with fail
        refine ⟨⟨lo, m, rfl, rfl, h1, hmP, by omega, B2⟩, ?_⟩
        simp [intOf]; omega
    · obtain rfl : lo = hi := by omega
      obtain rfl : lo = P := by omega
      by_cases hin : lo < l.length
      · have hfin := Hfin.out (by rw [← HP.out]; exact hin)
        have hcmp0 := Hcmp.out lo hin
        have hget : l[lo] = l[pos k l]'(by rw [← HP.out]; exact hin) := by congr 1
        obtain ⟨b0, off, rfl, hbl, hcell⟩ := HA.out (by omega)
        have hx := fun r u (hr : (l[lo]).cells[r]? = some u) => (hb.out.cell (p := ⟨b0, off + lo * 4 + r, none⟩) hbl).trans (hcell lo _ (List.getElem?_eq_getElem hin) r u hr)
        rw [← hget] at hfin
        have hbw : b0 < wr.heap.size := Nat.lt_of_lt_of_le hbl hb.out.size
        have d1 : decide ((lo : Int) < (l.length : Int)) = true := by simpa using hin
        have hin' : (lo : Int) < (l.length : Int) := by omega
        obtain ⟨x, hx0⟩ : ∃ x, x = l[lo] := ⟨_, rfl⟩
        rw [← hx0] at hx hcmp0 hfin
        obtain ⟨key, v, b, z⟩ := x
        simp only [Cel.v] at hcmp0
        simp only at hfin
        have c0 := hx 0 _ rfl
        have c1 := hx 1 _ rfl
        have c2 := hx 2 _ rfl
        have c3 := hx 3 _ rfl
        simp only [Nat.add_zero] at c0
        generalize Lib.compareBytes key k = r at *
        have HF := Lib.hid hfin
        clear hx hcell hx0 hfin hget
        go_wp2_with fail
        with_reducible refine (hcmp0 _).mono ?_
        rintro e w2 ⟨rfl, hb2⟩
        have B2 := Lib.hid (below_base hb.out hb.out.size hb2)
        clear hb hb2 hcmp0 c0 c1 c2 c3 hbw
        go_wp2_with fail
        go_ret2
        exact ⟨by rw [HF.out]; rfl, B2.out⟩
      · have d1 : decide ((lo : Int) < (l.length : Int)) = false := by simpa using hin
        have d2 : decide (has k l) = false := decide_eq_false (Hnot.out hin)
        have D2 := Lib.hid d2
        clear d2
        go_wp2_with fail
        go_ret2
        exact ⟨by rw [D2.out]; rfl, hb.out⟩
theorem at_any (A : Option Addr) (n cap : Nat) (l : List Cel) (k : List UInt8) (w : World) (hn : n = l.length) (hA : Cels w A l) (hs : Sorted l) (hl : l.length ≤ 200) :
    Calls Tryz.prog 138 #[.slice A n cap, .string (str k)] w fun e w' => e = .returned (.tuple #[.int .i64 (pos k l), .bool (decide (has k l))]) ∧ Below w.heap.size w w' := by
  subst hn
  have h := bsearch_any A cap l k w hA hs hl
  generalize pos k l = P at *
  generalize decide (has k l) = H at *
  generalize str k = T at *
  generalize l.length = N at *
  clear hA hs hl
  go_enter Tryz.func138, Tryz.ntmps138
  go_wp2_with fail
  with_reducible refine h.mono ?_
  rintro e w1 ⟨rfl, hb⟩
  go_wp2_with fail
  go_ret2
  exact ⟨rfl, hb⟩
set_option maxRecDepth 100000 in
theorem bcells_ok (p : Pag) (l : List Cel) (hp : Bkt p l) (w : World) :
    Calls Tryz.prog 137 #[p.v] w fun e w' => ∃ A cap, e = .returned (.tuple #[.slice A l.length cap, .bool true]) ∧ w'.ownsRow w.heap.size 33 4 (.slice A l.length cap) l.length (flatC l) ∧ Below w.heap.size w w' := by
  have hget := cget_ok l hp.fits
  have hk := hp.k
  have hb := hp.body
  obtain ⟨k, d, x, body⟩ := p
  simp only at hk hb
  subst hb
  simp only [Pag.v]
  obtain ⟨S, hS⟩ : ∃ S, S = str (bodyF l) := ⟨_, rfl⟩
  rw [← hS] at hget ⊢
  have hc := blk_cell (heap_alloc_new w (.cells #[.int .i64 k, .int .i64 d, .int .i64 x, .string S] 113))
  have hb := below_al (Below.refl _ w) (.cells #[.int .i64 k, .int .i64 d, .int .i64 x, .string S] 113)
  clear hS hp
  rcases hk with rfl | rfl
  · go_enter Tryz.func137, Tryz.ntmps137
    go_wp2_with fail
    with_reducible refine (hget _).mono ?_
    rintro e w1 ⟨A, cap, rfl, ho, hb1⟩
    have O := Lib.hid (row_mono ho (show w.heap.size ≤ _ by simp))
    have B := Lib.hid (below_tr hb hb1)
    clear ho hb1 hget hb
    go_wp2_with fail
    go_ret2
    exact ⟨A, cap, rfl, O.out, B.out⟩
  · go_enter Tryz.func137, Tryz.ntmps137
    go_wp2_with fail
    with_reducible refine (hget _).mono ?_
    rintro e w1 ⟨A, cap, rfl, ho, hb1⟩
    have O := Lib.hid (row_mono ho (show w.heap.size ≤ _ by simp))
    have B := Lib.hid (below_tr hb hb1)
    clear ho hb1 hget hb
    go_wp2_with fail
    go_ret2
    exact ⟨A, cap, rfl, O.out, B.out⟩
set_option maxRecDepth 100000 in
theorem bCells_ok (p : Pag) (l : List Cel) (hp : Bkt p l) (w : World) :
    Calls Tryz.prog 144 #[p.v] w fun e w' => ∃ A cap, e = .returned (.slice A l.length cap) ∧ w'.ownsRow w.heap.size 33 4 (.slice A l.length cap) l.length (flatC l) ∧ Below w.heap.size w w' := by
  have hget := bcells_ok p l hp
  obtain ⟨k, d, x, body⟩ := p
  simp only [Pag.v] at hget ⊢
  obtain ⟨S, hS⟩ : ∃ S, S = str body := ⟨_, rfl⟩
  rw [← hS] at hget ⊢
  have hc := blk_cell (heap_alloc_new w (.cells #[.int .i64 k, .int .i64 d, .int .i64 x, .string S] 113))
  have hb := below_al (Below.refl _ w) (.cells #[.int .i64 k, .int .i64 d, .int .i64 x, .string S] 113)
  clear hS hp
  go_enter Tryz.func144, Tryz.ntmps144
  go_wp2_with fail
  with_reducible refine (hget _).mono ?_
  rintro e w1 ⟨A, cap, rfl, ho, hb1⟩
  have O := Lib.hid (row_mono ho (show w.heap.size ≤ _ by simp))
  have B := Lib.hid (below_tr hb hb1)
  clear ho hb1 hget hb
  go_wp2_with fail
  go_ret
  exact ⟨A, cap, rfl, O.out, B.out⟩
end Go.Proofs.YtijhamllnnilbaaGreatDoor.Ha
namespace Go.Proofs.YtijhamllnnilbaaGreatDoor.Ha
open Go.RowKit Go.Proofs.YtijhamllnnilbaaGreatDoor.Mem Go.Proofs.YtijhamllnnilbaaGreatDoor.Pg Go.Proofs.YtijhamllnnilbaaGreatDoor.Kp Go.Proofs.YtijhamllnnilbaaGreatDoor.Sp Go.Proofs.YtijhamllnnilbaaGreatDoor.Gr
set_option linter.unusedSimpArgs false
set_option linter.unusedVariables false
theorem cel_one (l : List Cel) : ∀ v ∈ flatC l, v.oneCell' = true := by
  intro v hv
  obtain ⟨c, _, hc⟩ := List.mem_flatMap.1 hv
  simp [Cel.cells] at hc
  rcases hc with rfl | rfl | rfl | rfl <;> rfl
end Go.Proofs.YtijhamllnnilbaaGreatDoor.Ha
namespace Go.Proofs.YtijhamllnnilbaaGreatDoor.Ha
open Go.RowKit Go.Proofs.YtijhamllnnilbaaGreatDoor.Mem Go.Proofs.YtijhamllnnilbaaGreatDoor.Pg Go.Proofs.YtijhamllnnilbaaGreatDoor.Kp Go.Proofs.YtijhamllnnilbaaGreatDoor.Sp Go.Proofs.YtijhamllnnilbaaGreatDoor.Gr
set_option linter.unusedSimpArgs false
set_option linter.unusedVariables false
end Go.Proofs.YtijhamllnnilbaaGreatDoor.Ha
namespace Go.Proofs.YtijhamllnnilbaaGreatDoor.Ha
open Go.RowKit Go.Proofs.YtijhamllnnilbaaGreatDoor.Mem Go.Proofs.YtijhamllnnilbaaGreatDoor.Pg Go.Proofs.YtijhamllnnilbaaGreatDoor.Kp Go.Proofs.YtijhamllnnilbaaGreatDoor.Sp Go.Proofs.YtijhamllnnilbaaGreatDoor.Gr
set_option linter.unusedSimpArgs false
set_option linter.unusedVariables false
theorem flatC_take (l : List Cel) (i : Nat) (h : i ≤ l.length) : (flatC (l.take i)).length = i * 4 := by rw [flatC_len, List.length_take]; omega
theorem flatC_cons (c : Cel) (l : List Cel) : flatC (c :: l) = c.cells ++ flatC l := by simp [flatC]
theorem blk_a1 (w : World) (cs : Array Value) (t : TypeId) (o : Obj) : ((w.alloc (.cells cs t)).alloc o).heap[w.heap.size]? = some (.cells cs t (0, 0)) := hal (heap_alloc_new w _)
theorem blk_a2 (w : World) (o : Obj) (cs : Array Value) (t : TypeId) : ((w.alloc o).alloc (.cells cs t)).heap[w.heap.size + 1]? = some (.cells cs t (0, 0)) := by
  have := heap_alloc_new (w.alloc o) (.cells cs t)
  simpa using this
abbrev pagO (k d x : Int) (S : ByteArray) : Obj := .cells #[.int .i64 k, .int .i64 d, .int .i64 x, .string S] 113
abbrev zcO : Obj := .cells #[.string ⟨#[]⟩, .string ⟨#[]⟩, .int .i64 0, .int .i64 0] 33
abbrev zcV : Value := .agg #[.string ⟨#[]⟩, .string ⟨#[]⟩, .int .i64 0, .int .i64 0]
end Go.Proofs.YtijhamllnnilbaaGreatDoor.Ha
namespace Go.Proofs.YtijhamllnnilbaaGreatDoor.Ha
open Go.RowKit Go.Proofs.YtijhamllnnilbaaGreatDoor.Mem Go.Proofs.YtijhamllnnilbaaGreatDoor.Pg Go.Proofs.YtijhamllnnilbaaGreatDoor.Kp Go.Proofs.YtijhamllnnilbaaGreatDoor.Sp Go.Proofs.YtijhamllnnilbaaGreatDoor.Gr
set_option linter.unusedSimpArgs false
set_option linter.unusedVariables false
/-- The cell of a key that is there. -/
def celAt (k : List UInt8) (l : List Cel) : Cel := l.getD (pos k l) ⟨[], [], 0, 0⟩
theorem celAt_get {k : List UInt8} {l : List Cel} (hs : Sorted l) (h : has k l) : ∃ hl : pos k l < l.length, celAt k l = l[pos k l] ∧ (celAt k l).key = k := by
  obtain ⟨hl, e⟩ := (has_iff hs).1 h
  refine ⟨hl, ?_, ?_⟩
  · unfold celAt; rw [List.getD_eq_getElem?_getD, List.getElem?_eq_getElem hl]; rfl
  · unfold celAt; rw [List.getD_eq_getElem?_getD, List.getElem?_eq_getElem hl]; exact e
theorem celAt_mem {k : List UInt8} {l : List Cel} (hs : Sorted l) (h : has k l) : celAt k l ∈ l := by
  obtain ⟨hl, e, _⟩ := celAt_get hs h
  rw [e]; exact List.getElem_mem _
set_option maxRecDepth 100000 in
theorem find_yes (p : Pag) (l : List Cel) (k : List UInt8) (hp : Bkt p l) (h : has k l) (w : World) :
    Calls Tryz.prog 136 #[p.v, .string (str k)] w fun e w' => e = .returned (.tuple #[(celAt k l).v, .bool true]) ∧ Below w.heap.size w w' := by
  have hs := hp.fits.sorted
  have hlen := hp.fits.len
  have hget := bcells_ok p l hp
  have hat := fun A cap W (hA : Cels W A l) => at_any A l.length cap l k W rfl hA hs (by omega)
  rw [decide_eq_true h] at hat
  obtain ⟨hpl, hce, _⟩ := celAt_get hs h
  obtain ⟨q, d, x, body⟩ := p
  simp only [Pag.v] at hget ⊢
  obtain ⟨S, hS⟩ : ∃ S, S = str body := ⟨_, rfl⟩
  rw [← hS] at hget ⊢
  obtain ⟨T, hT⟩ : ∃ T, T = str k := ⟨_, rfl⟩
  rw [← hT] at hat ⊢
  have cp := blk_cell (blk_a1 w #[.int .i64 q, .int .i64 d, .int .i64 x, .string S] 113 zcO)
  have B := Lib.hid (below_al (below_al (Below.refl _ w) (pagO q d x S)) zcO)
  have Z := Lib.hid (blk_a2 w (pagO q d x S) #[.string ⟨#[]⟩, .string ⟨#[]⟩, .int .i64 0, .int .i64 0] 33)
  obtain ⟨P, hP⟩ : ∃ P, P = pos k l := ⟨_, rfl⟩
  have HC : Hid (∃ hl : P < l.length, celAt k l = l[P]) := Lib.hid (by subst hP; exact ⟨hpl, hce⟩)
  rw [← hP] at hat
  have Hat := Lib.hid hat
  clear hS hT hp hs h hce hpl hP hat
  obtain ⟨hPl, hce⟩ := HC.out
  obtain ⟨c, hc⟩ : ∃ c, c = celAt k l := ⟨_, rfl⟩
  rw [← hc] at hce ⊢
  obtain ⟨ck, cv, cb, cz⟩ := c
  simp only [Cel.v]
  have Hce := Lib.hid hce
  clear HC hc hce
  go_enter Tryz.func136, Tryz.ntmps136
  go_wp2_with fail
  with_reducible refine (hget _).mono ?_
  rintro e w1 ⟨A, cap, rfl, ho, hb1⟩
  have O1 := Lib.hid ho
  have B1 := Lib.hid (below_tr B.out hb1)
  have Z1 := Lib.hid (blk_keep Z.out hb1)
  have hat1 := Hat.out A cap w1 (Cels.of_own ho)
  clear ho hb1 cp hget Z B Hat
  go_wp2_with fail
  with_reducible refine hat1.mono ?_
  rintro e w2 ⟨rfl, hb2⟩
  obtain ⟨b0, off, rfl, hbl, hcell⟩ := (Cels.of_own O1.out) (by omega)
  have hx := fun r u (hr : (l[P]).cells[r]? = some u) => (hb2.cell (p := ⟨b0, off + P * 4 + r, none⟩) hbl).trans (hcell P _ (List.getElem?_eq_getElem hPl) r u hr)
  rw [← Hce.out] at hx
  have c0 := hx 0 _ rfl
  have c1 := hx 1 _ rfl
  have c2 := hx 2 _ rfl
  have c3 := hx 3 _ rfl
  simp only [Nat.add_zero] at c0
  have hbw : b0 < w2.heap.size := Nat.lt_of_lt_of_le hbl hb2.size
  have B2 := Lib.hid (below_tr B1.out hb2)
  have z2 := blk_keep Z1.out hb2
  have cz2 := blk_cell z2
  have fz2 := blk_free z2
  have lz2 := lt_of_block z2
  have hPi : (P : Int) < (l.length : Int) := by omega
  have zf := blk_cell (set4_same z2 (.string (str ck)) (.string (str cv)) (.int .i64 cb) (.int .i64 cz))
  have BF := Lib.hid (below_set4 B2.out (show w.heap.size ≤ w.heap.size + 1 by omega) (.string (str ck)) (.string (str cv)) (.int .i64 cb) (.int .i64 cz))
  clear hb2 hx hcell hat1 Z1 B1 z2 B2
  go_wp2_with fail
  refine bodyPost_ret (v := .tuple #[.agg #[.string (str ck), .string (str cv), .int .i64 cb, .int .i64 cz], .bool true]) (by simp [results, Tryz.results136, go_sem, zf]) rfl ⟨rfl, BF.out⟩
set_option maxRecDepth 100000 in
theorem find_no (p : Pag) (l : List Cel) (k : List UInt8) (hp : Bkt p l) (h : ¬ has k l) (w : World) :
    Calls Tryz.prog 136 #[p.v, .string (str k)] w fun e w' => e = .returned (.tuple #[zcV, .bool false]) ∧ Below w.heap.size w w' := by
  have hs := hp.fits.sorted
  have hlen := hp.fits.len
  have hget := bcells_ok p l hp
  have hat := fun A cap W (hA : Cels W A l) => at_any A l.length cap l k W rfl hA hs (by omega)
  rw [decide_eq_false h] at hat
  obtain ⟨q, d, x, body⟩ := p
  simp only [Pag.v] at hget ⊢
  obtain ⟨S, hS⟩ : ∃ S, S = str body := ⟨_, rfl⟩
  rw [← hS] at hget ⊢
  obtain ⟨T, hT⟩ : ∃ T, T = str k := ⟨_, rfl⟩
  rw [← hT] at hat ⊢
  have cp := blk_cell (blk_a1 w #[.int .i64 q, .int .i64 d, .int .i64 x, .string S] 113 zcO)
  have B := Lib.hid (below_al (below_al (Below.refl _ w) (pagO q d x S)) zcO)
  have Z := Lib.hid (blk_a2 w (pagO q d x S) #[.string ⟨#[]⟩, .string ⟨#[]⟩, .int .i64 0, .int .i64 0] 33)
  generalize pos k l = P at *
  have Hat := Lib.hid hat
  clear hS hT hp hs h hat
  go_enter Tryz.func136, Tryz.ntmps136
  go_wp2_with fail
  with_reducible refine (hget _).mono ?_
  rintro e w1 ⟨A, cap, rfl, ho, hb1⟩
  have B1 := Lib.hid (below_tr B.out hb1)
  have Z1 := Lib.hid (blk_keep Z.out hb1)
  have hat1 := Hat.out A cap w1 (Cels.of_own ho)
  clear ho hb1 cp hget Z B Hat
  go_wp2_with fail
  with_reducible refine hat1.mono ?_
  rintro e w2 ⟨rfl, hb2⟩
  have B2 := Lib.hid (below_tr B1.out hb2)
  have z2 := blk_keep Z1.out hb2
  have cz2 := blk_cell z2
  have fz2 := blk_free z2
  have lz2 := lt_of_block z2
  have zf := blk_cell (set4_same z2 (.string ⟨#[]⟩) (.string ⟨#[]⟩) (.int .i64 0) (.int .i64 0))
  have BF := Lib.hid (below_set4 B2.out (show w.heap.size ≤ w.heap.size + 1 by omega) (.string ⟨#[]⟩) (.string ⟨#[]⟩) (.int .i64 0) (.int .i64 0))
  clear hb2 hat1 Z1 B1 z2 B2
  go_wp2_with fail
  refine bodyPost_ret (v := .tuple #[zcV, .bool false]) (by simp [results, Tryz.results136, go_sem, zf]) rfl ⟨rfl, BF.out⟩
end Go.Proofs.YtijhamllnnilbaaGreatDoor.Ha
namespace Go.Proofs.YtijhamllnnilbaaGreatDoor.Ha
open Go.RowKit Go.Proofs.YtijhamllnnilbaaGreatDoor.Mem Go.Proofs.YtijhamllnnilbaaGreatDoor.Pg Go.Proofs.YtijhamllnnilbaaGreatDoor.Kp Go.Proofs.YtijhamllnnilbaaGreatDoor.Sp Go.Proofs.YtijhamllnnilbaaGreatDoor.Gr
set_option linter.unusedSimpArgs false
set_option linter.unusedVariables false
/-- Four cells stored at a place of a block. -/
abbrev set4o (w : World) (g o : Nat) (a b c d : Value) : World := (((w.setCell ⟨g, o, none⟩ a).setCell ⟨g, o + 1, none⟩ b).setCell ⟨g, o + 2, none⟩ c).setCell ⟨g, o + 3, none⟩ d
theorem set4o_same {w : World} {g o : Nat} {cs : Array Value} {t : TypeId} (h : w.heap[g]? = some (.cells cs t (0, 0))) (a b c d : Value) :
    (set4o w g o a b c d).heap[g]? = some (.cells ((((cs.setIfInBounds o a).setIfInBounds (o + 1) b).setIfInBounds (o + 2) c).setIfInBounds (o + 3) d) t (0, 0)) :=
  heap_setCell_same _ g _ _ t d (heap_setCell_same _ g _ _ t c (heap_setCell_same _ g _ _ t b (heap_setCell_same w g _ _ t a h)))
theorem set4_list (P : List Value) (x0 x1 x2 x3 a b c d : Value) (R : List Value) (o : Nat) (ho : P.length = o) :
    ((((P ++ x0 :: x1 :: x2 :: x3 :: R).set o a).set (o + 1) b).set (o + 2) c).set (o + 3) d = P ++ a :: b :: c :: d :: R := by
  subst ho
  simp [List.set_append_right]
/-- A row of cells in which one is another one. -/
theorem own_set {w : World} {base g n cap i : Nat} {l : List Cel} (ho : w.ownsRow base 33 4 (.slice (some ⟨g, 0, none⟩) n cap) n (flatC l)) (hi : i < l.length) (c : Cel) :
    (set4o w g (i * 4) (.string (str c.key)) (.string (str c.val)) (.int .i64 c.blob) (.int .i64 c.size)).ownsRow base 33 4 (.slice (some ⟨g, 0, none⟩) n cap) n (flatC (l.set i c)) := by
  have hn := ho.1
  rw [flatC_len] at hn
  refine ⟨by rw [flatC_len, List.length_set]; omega, ?_⟩
  rcases ho.2 with ⟨h1, _⟩ | ⟨g', cap', cur, h0, hbg, hg, h1, h2, h3, h4⟩
  · cases h1
  · injection h0 with e1 e2 e3
    injection e1 with e1
    injection e1 with e1
    subst e1 e3
    refine .inr ⟨g, cap, _, rfl, hbg, set4o_same hg _ _ _ _, h1, h2, by simpa using h3, ?_⟩
    have hcur : cur.toList = flatC (l.take i) ++ ((l[i]).cells ++ (flatC (l.drop (i + 1)) ++ cur.toList.drop (n * 4))) := by
      have hd : flatC (l.drop i) = (l[i]).cells ++ flatC (l.drop (i + 1)) := by rw [List.drop_eq_getElem_cons hi, flatC_cons]
      rw [← List.append_assoc (l[i]).cells, ← hd, ← List.append_assoc, ← flatC_append, List.take_append_drop, ← h4, List.take_append_drop]
    have hP := flatC_take l i (by omega)
    simp only [Array.toList_setIfInBounds]
    generalize cur.toList.drop (n * 4) = R at *
    rw [hcur]
    have := set4_list (flatC (l.take i)) (.string (str (l[i]).key)) (.string (str (l[i]).val)) (.int .i64 (l[i]).blob) (.int .i64 (l[i]).size) (.string (str c.key)) (.string (str c.val)) (.int .i64 c.blob) (.int .i64 c.size) (flatC (l.drop (i + 1)) ++ R) (i * 4) hP
    refine (congrArg (List.take (n * 4)) this).trans ?_
    have hfl : flatC (l.set i c) = flatC (l.take i) ++ (c.cells ++ flatC (l.drop (i + 1))) := by
      rw [List.set_eq_take_append_cons_drop, if_pos hi, flatC_append, flatC_cons]
    have hlen : (flatC (l.take i) ++ (c.cells ++ flatC (l.drop (i + 1)))).length = n * 4 := by
      rw [← hfl, flatC_len, List.length_set]; omega
    rw [hfl, ← hlen]
    refine (congrArg (List.take _) (show flatC (l.take i) ++ (c.cells ++ (flatC (l.drop (i + 1)) ++ R)) = (flatC (l.take i) ++ (c.cells ++ flatC (l.drop (i + 1)))) ++ R by simp)).trans List.take_left
end Go.Proofs.YtijhamllnnilbaaGreatDoor.Ha
namespace Go.Proofs.YtijhamllnnilbaaGreatDoor.Ha
open Go.RowKit Go.Proofs.YtijhamllnnilbaaGreatDoor.Mem Go.Proofs.YtijhamllnnilbaaGreatDoor.Pg Go.Proofs.YtijhamllnnilbaaGreatDoor.Kp Go.Proofs.YtijhamllnnilbaaGreatDoor.Sp Go.Proofs.YtijhamllnnilbaaGreatDoor.Gr
set_option linter.unusedSimpArgs false
set_option linter.unusedVariables false
theorem szs_step (l : List Cel) (j : Nat) (hj : j < l.length) : szs (l.take (j + 1)) = szs (l.take j) + (l[j]).sz := by
  rw [List.take_succ_eq_append_getElem hj, szs_append]; simp [szs]
set_option maxRecDepth 100000 in
set_option maxHeartbeats 2000000 in
theorem room_any (p : Pag) (l : List Cel) (hp : Bkt p l) (w : World) :
    Calls Tryz.prog 189 #[p.v] w fun e w' => e = .returned (.int .i64 ((239 - szs l : Nat) : Int)) ∧ Below w.heap.size w w' := by
  have hlen := hp.fits.len
  have hroom := hp.fits.room
  have hget := bcells_ok p l hp
  have hsz := fun j (hj : j < l.length) W => size_any l[j] W (by have := (hp.fits.ok _ (List.getElem_mem hj)).key.2; omega) (by have := (hp.fits.ok _ (List.getElem_mem hj)).rest; rcases this with h | h; omega; rw [h.2.2.1]; simp)
  have hstep := fun j (hj : j < l.length) => szs_step l j hj
  have hszc := fun j (hj : j < l.length) => sz_le _ (hp.fits.ok _ (List.getElem_mem hj))
  have htk := fun j => szs_take_le l j
  obtain ⟨q, d, x, body⟩ := p
  simp only [Pag.v] at hget ⊢
  obtain ⟨S, hS⟩ : ∃ S, S = str body := ⟨_, rfl⟩
  rw [← hS] at hget ⊢
  have cp := blk_cell (heap_alloc_new w (pagO q d x S))
  have B := Lib.hid (below_al (Below.refl _ w) (pagO q d x S))
  have Hsz := Lib.hid hsz
  have Hst := Lib.hid hstep
  have Htk := Lib.hid htk
  have Hszc := Lib.hid hszc
  clear hS hp hsz hstep htk hszc
  go_enter Tryz.func189, Tryz.ntmps189
  go_wp2_with fail
  with_reducible refine (hget _).mono ?_
  rintro e w1 ⟨A, cap, rfl, ho, hb1⟩
  have HA := Lib.hid (Cels.of_own ho)
  have B1 := Lib.hid (below_tr B.out hb1)
  have R1 := Lib.hid (Below.refl w1.heap.size w1)
  clear ho hb1 cp hget B
  go_wp2_with fail
  go_loopw [5, 17] (fun v i wr => ∃ j : Nat, v = .int .i64 ((239 - szs (l.take j) : Nat) : Int) ∧ i = .int .i64 j ∧ j ≤ l.length ∧ Hid (Below w1.heap.size w1 wr)) (fun _ i _ => l.length - (intOf i).toNat)
  case atStart => exact ⟨0, by simp [szs], rfl, Nat.zero_le _, R1⟩
  case round =>
    clear R1
    obtain ⟨j, rfl, rfl, hj, hb⟩ := hrel
    by_cases hlt : j < l.length
    · have d1 : decide ((j : Int) < (l.length : Int)) = true := by simpa using hlt
      have hlt' : (j : Int) < (l.length : Int) := by omega
      have i1 : IntKind.i64.wrap ((j : Int) + 1) = (j : Int) + 1 := IntWalk.i64_in _ (by omega)
      obtain ⟨b0, off, rfl, hbl, hcell⟩ := HA.out (by omega)
      have hx := fun r u (hr : (l[j]).cells[r]? = some u) => (hb.out.cell (p := ⟨b0, off + j * 4 + r, none⟩) hbl).trans (hcell j _ (List.getElem?_eq_getElem hlt) r u hr)
      have hbw : b0 < wr.heap.size := Nat.lt_of_lt_of_le hbl hb.out.size
      have hsize := Hsz.out j hlt
      have hst := Hst.out j hlt
      have h60 := Hszc.out j hlt
      have hle2 := Htk.out (j + 1)
      obtain ⟨y, hy⟩ : ∃ y, y = l[j] := ⟨_, rfl⟩
      rw [← hy] at hx hsize hst h60
      obtain ⟨ck, cv, cb, cz⟩ := y
      obtain ⟨z, hz⟩ : ∃ z, z = Cel.sz ⟨ck, cv, cb, cz⟩ := ⟨_, rfl⟩
      rw [← hz] at hsize hst h60
      simp only [Cel.v] at hsize
      have c0 := hx 0 _ rfl
      have c1 := hx 1 _ rfl
      have c2 := hx 2 _ rfl
      have c3 := hx 3 _ rfl
      simp only [Nat.add_zero] at c0
      obtain ⟨V, hV⟩ : ∃ V, V = szs (l.take j) := ⟨_, rfl⟩
      have hV2 : szs (l.take (j + 1)) = V + z := by rw [hV]; exact hst
      rw [← hV]
      have hr2 : V + z ≤ 239 := by omega
      have hsub : ((239 - V : Nat) : Int) - (z : Int) = ((239 - (V + z) : Nat) : Int) := by omega
      have hw2 : IntKind.i64.wrap (((239 - V : Nat) : Int) - (z : Int)) = ((239 - V : Nat) : Int) - (z : Int) := IntWalk.i64_in _ (by omega)
      have kb := heap_alloc_new wr (celO (str ck) (str cv) cb cz)
      have kc := blk_cell kb
      have B2 := Lib.hid (below_al hb.out (celO (str ck) (str cv) cb cz))
      have HV2 := Lib.hid hV2
      have Hsub := Lib.hid hsub
      clear hx hcell hy hst hz hV hV2 hsub kb hb hle2
      go_wp2_with fail
      with_reducible refine (hsize _).mono ?_
      rintro e w2 ⟨rfl, hb2⟩
      have B3 := Lib.hid (below_base B2.out B2.out.size hb2)
      clear hb2 B2 c0 c1 c2 c3 kc hsize
      go_wp2_with fail
      refine ⟨⟨j + 1, by rw [HV2.out, ← Hsub.out], by simp, by omega, B3⟩, ?_⟩
      clear i1 hw2
      simp [intOf]; omega
    · obtain rfl : j = l.length := by omega
      rw [List.take_length]
      have B2 := Lib.hid (below_tr B1.out hb.out)
      go_wp2_with fail
      go_ret
      exact ⟨rfl, B2.out⟩
end Go.Proofs.YtijhamllnnilbaaGreatDoor.Ha
