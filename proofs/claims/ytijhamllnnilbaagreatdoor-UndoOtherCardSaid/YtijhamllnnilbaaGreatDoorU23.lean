/- Lemmas of the claim, in their order:
- The contract of blob.Get.
-/
import Derived.Test.YtijhamllnnilbaaGreatDoorU17
import Derived.Lib.TrimByte
import Derived.Lib.OthersKept
set_option linter.unusedVariables false
set_option linter.unusedSimpArgs false
namespace Go.Proofs.YtijhamllnnilbaaGreatDoor.Bl
open Go.RowKit Go.Proofs.YtijhamllnnilbaaGreatDoor.Mem Go.Proofs.YtijhamllnnilbaaGreatDoor.Pg

theorem dropWhile_nil {α : Type} (p : α → Bool) : ∀ l : List α, l.dropWhile p = [] ↔ ∀ x ∈ l, p x = true
  | [] => by simp
  | a :: l => by
    by_cases h : p a = true
    · simp [h, dropWhile_nil p l]
    · simp [h]
theorem trimB_nil (l : List UInt8) (c : UInt8) : Lib.trimB l c = [] ↔ ∀ x ∈ l, x = c := by
  unfold Lib.trimB Lib.trimLeftB Lib.trimRightB
  rw [dropWhile_nil]
  constructor
  · intro h x hx
    have h0 : l.reverse.dropWhile (· == c) = [] := by
      rcases hd : l.reverse.dropWhile (· == c) with _ | ⟨y, ys⟩
      · rfl
      · have h1 := List.head_dropWhile_not (fun x => x == c) (l := l.reverse) (by rw [hd]; simp)
        have h2 := h y (by rw [hd]; simp)
        simp [hd] at h1
        simp at h2
        exact absurd h2 h1
    rw [dropWhile_nil] at h0
    simpa using h0 x (by simpa using hx)
  · intro h x hx
    have h0 : l.reverse.dropWhile (· == c) = [] := by
      rw [dropWhile_nil]
      intro y hy
      simpa using h y (by simpa using hy)
    rw [h0] at hx
    simp at hx
/-- A page. -/
structure Pg where
  (k d x : Int)
  b : List UInt8
def Pg.cells (p : Pg) : List Value := [.int .i64 p.k, .int .i64 p.d, .int .i64 p.x, .string (str p.b)]
/-- A row of pages that is read. -/
def Pgs (w : World) (A : Option Addr) (n : Nat) (l : List Pg) : Prop :=
  l.length = n ∧ n ≤ 1000 ∧ (0 < n → ∃ b off, A = some ⟨b, off, none⟩ ∧ b < w.heap.size ∧ ∀ i p, l[i]? = some p → ∀ j u, p.cells[j]? = some u → w.cell? ⟨b, off + i * 4 + j, none⟩ = some u)
/-- How many bytes of a value are in its i-th page. -/
def nAt (z : Int) (i : Nat) : Nat := min (z - 200 * i).toNat 200
def PgOk (z : Int) (len i : Nat) (p : Pg) : Prop := p.k = 5 ∧ (p.x = 0 ↔ i + 1 = len) ∧ p.b.length = 240 ∧ ∀ c ∈ p.b.drop (nAt z i), c = 0
def GetOk (z : Int) (l : List Pg) : Prop := l.length ≠ 0 ∧ l.length = pgI z ∧ ∀ i p, l[i]? = some p → PgOk z l.length i p
def got (z : Int) (l : List Pg) : Nat → List UInt8
  | 0 => []
  | j + 1 => got z l j ++ match l[j]? with | some p => p.b.take (nAt z j) | none => []
def GetPost (w : World) (z : Int) (l : List Pg) (e : Ending) (w' : World) : Prop :=
  ((GetOk z l ∧ e = .returned (.tuple #[.string (str (got z l l.length)), .bool true])) ∨ (¬ GetOk z l ∧ e = .returned (.tuple #[.string ⟨#[]⟩, .bool false]))) ∧ Below w.heap.size w w'
theorem pgI_lt (z : Int) (j : Nat) (h : j < pgI z) : 200 * (j : Int) < z ∧ 40 < z ∧ z ≤ 400 := by
  unfold pgI at h
  split at h <;> omega
theorem got_len {z : Int} {l : List Pg} {len : Nat} : ∀ j, j < pgI z → (∀ i, i < j → ∃ p, l[i]? = some p ∧ PgOk z len i p) → (got z l j).length = 200 * j := by
  intro j
  induction j with
  | zero => intro _ _; rfl
  | succ j ih =>
    intro h hp
    obtain ⟨p, h1, h2⟩ := hp j (by omega)
    have hz := pgI_lt z (j + 1) h
    have := h2.2.2.1
    rw [got, h1, List.length_append, ih (by omega) (fun i hi => hp i (by omega)), List.length_take, this]
    unfold nAt
    omega
theorem ext_drop (l : List UInt8) (n : Nat) : (str l).extract n (str l).size = str (l.drop n) := by
  rw [str_size, Lib.extract_mk, List.take_of_length_le (by simp)]
theorem isB_drew {T e : TypeId} {B b : Nat} {bs : List Value} {w : World} (h : Lib.IsBuilderF T e B b bs w) : Lib.IsBuilderF T e B b bs w.drew := h.imp Lib.BuilderAtF.drew Lib.BuilderAtF.drew

theorem below_tr' {B : Nat} {a b c : World} (h : Below B a b) (k : Below B b c) : Below B a c := h.trans k

set_option maxRecDepth 100000 in
set_option maxHeartbeats 4000000 in
theorem get_any (z : Int) (A : Option Addr) (n cap : Nat) (l : List Pg) (w : World) (hz : Pgs w A n l) :
    Calls Tryz.prog 77 #[.int .i64 z, .slice A n cap] w (GetPost w z l) := by
  have hpg := fun w => blobPagesI_any z w
  have hn : l.length = n := hz.1
  by_cases h0 : n = 0
  · have hno : ¬ GetOk z l := fun h => h.1 (by omega)
    have d0 : ((n : Int) == 0) = true := by simp; omega
    have Hno := Lib.hid hno
    clear hno hpg hz hn
    subst h0
    go_enter Tryz.func77, Tryz.ntmps77
    go_wp2
    go_ret2
    exact ⟨.inr ⟨Hno.out, rfl⟩, Below.refl _ _⟩
  · have d0 : ((n : Int) == 0) = false := by simp; omega
    by_cases h1 : n = pgI z
    · have d1 : ((n : Int) != (pgI z : Int)) = false := by simp; omega
      have hn2 : n ≤ 2 := by have := pgI_le z; omega
      have H1 := Lib.hid h1
      have H0 := Lib.hid h0
      obtain ⟨P, hP⟩ : ∃ P, P = pgI z := ⟨_, rfl⟩
      rw [← hP] at d1 hpg
      have HP := Lib.hid hP
      obtain ⟨b, off, rfl, hbl, hcell⟩ := hz.2.2 (by omega)
      have Hcell := Lib.hid hcell
      have Hn := Lib.hid hn
      clear hP h1 h0 hz hcell hn
      go_enter Tryz.func77, Tryz.ntmps77
      go_wp2_with fail
      refine (hpg _).mono ?_
      rintro e w1 ⟨rfl, rfl⟩
      clear hpg
      go_wp2_with fail
      go_loopw [23] (fun i wr => ∃ j : Nat, i = .int .i64 j ∧ j ≤ n ∧ Lib.IsBuilderF 239 5 w1.heap.size w1.heap.size (Lib.byteCells (got z l j)) wr ∧ Below w1.heap.size w1 wr ∧ Hid (∀ i, i < j → ∃ p, l[i]? = some p ∧ PgOk z l.length i p)) (fun i _ => n - (intOf i).toNat)
      case atStart => exact ⟨0, rfl, Nat.zero_le _, .inl ⟨Nat.le_refl _, .slice none 0 0, heap_alloc_new _ _, World.ownsRowF_of (World.ownsRow_nil _ _ _ _), by simp [Value.ownBlock]⟩, below_al (Below.refl _ _) _, Lib.hid (fun i hi => absurd hi (by omega))⟩
      case round =>
        obtain ⟨j, rfl, hj, hbu, hbel, hoks⟩ := hrel
        by_cases hlt : j < n
        · obtain ⟨p, hp⟩ : ∃ p, l[j]? = some p := ⟨l[j]'(by have := Hn.out; omega), by rw [List.getElem?_eq_getElem]⟩
          obtain ⟨pk, pd, px, pb⟩ := p
          have c0 := (hbel.cell (p := ⟨b, off + j * 4 + 0, none⟩) hbl).trans (Hcell.out j _ hp 0 _ rfl)
          have c1 := (hbel.cell (p := ⟨b, off + j * 4 + 1, none⟩) hbl).trans (Hcell.out j _ hp 1 _ rfl)
          have c2 := (hbel.cell (p := ⟨b, off + j * 4 + 2, none⟩) hbl).trans (Hcell.out j _ hp 2 _ rfl)
          have c3 := (hbel.cell (p := ⟨b, off + j * 4 + 3, none⟩) hbl).trans (Hcell.out j _ hp 3 _ rfl)
          rw [Nat.add_zero] at c0
          have hz := pgI_lt z j (by have := H1.out; omega)
          have hgl : (Lib.byteCells (got z l j)).length = 200 * j := by rw [Lib.byteCells, List.length_map]; exact got_len j (by have := H1.out; omega) hoks.out
          have hlen := fun W h => Tryz.Builder_Len_f w1.heap.size w1.heap.size (Lib.byteCells (got z l j)) W h
          rw [hgl] at hlen
          obtain ⟨m, hm⟩ : ∃ m, m = nAt z j := ⟨_, rfl⟩
          have hmin : min (z - ((200 * j : Nat) : Int)) 200 = (m : Int) := by rw [hm, nAt]; omega
          have hm2 : m ≤ 200 := by rw [hm, nAt]; omega
          have hwr : IntKind.i64.wrap (z - ((200 * j : Nat) : Int)) = z - ((200 * j : Nat) : Int) := IntWalk.i64_in _ (by omega)
          have hwr2 : wrap64 (z - ((200 * j : Nat) : Int)) = z - ((200 * j : Nat) : Int) := IntWalk.wrap64_in _ (by omega)
          have Hm := Lib.hid hm
          have Hz := Lib.hid hz
          have Hp := Lib.hid hp
          clear hm hz hp hgl
          obtain ⟨J, hJ⟩ : ∃ J, J = 200 * j := ⟨_, rfl⟩
          rw [← hJ] at hlen hmin hwr hwr2
          clear hJ
          go_wp2_with fail
          with_reducible refine (hlen _ (hbu.alloc _)).mono ?_
          rintro e w2 ⟨rfl, rfl⟩
          clear hlen
          generalize hbx : (px == 0) = bx
          generalize hbl' : ((j : Int) + 1 == (n : Int)) = bl
          have Hbx := Lib.hid hbx
          have Hbl := Lib.hid hbl'
          by_cases e1 : pk = 5
          · have d5 : (pk != 5) = false := by simpa using e1
            have E1 := Lib.hid e1
            clear e1
            by_cases e2 : bx = bl
            · subst e2
              by_cases e3 : pb.length = 240
              · have d240 : (((str pb).size : Int) != 240) = false := by rw [str_size]; simp; omega
                have hms : m ≤ (str pb).size := by rw [str_size]; omega
                have hms2 : (m : Int) ≤ ((str pb).size : Int) := by omega
                have htr := fun W => Tryz.strings_Trim_one ((str pb).extract m (str pb).size) 0 (by decide) W (by rw [ext_drop, str_size, List.length_drop]; omega)
                have hdt : ((str pb).extract m (str pb).size).data.toList = pb.drop m := by rw [ext_drop]
                rw [hdt] at htr
                have E3 := Lib.hid e3
                have hs240 : (str pb).size = 240 := by rw [str_size]; exact e3
                obtain ⟨T, hT⟩ : ∃ T, T = Lib.trimB (pb.drop m) 0 := ⟨_, rfl⟩
                rw [← hT] at htr
                have HT := Lib.hid hT
                clear e3 hdt hT
                obtain ⟨S, hS⟩ : ∃ S, S = str pb := ⟨_, rfl⟩
                rw [← hS] at d240 hms hms2 htr hs240 ⊢
                rw [hs240] at htr hms hms2 d240
                have HS := Lib.hid hS
                clear hS
                rcases T with _ | ⟨t0, ts⟩
                · go_wp2_with fail
                  with_reducible refine (htr _).mono ?_
                  rintro e w3 ⟨rfl, hw3⟩
                  have hbl3 : Hid (Below w1.heap.size w1 w3) ∧ Lib.IsBuilderF 239 5 w1.heap.size w1.heap.size (Lib.byteCells (got z l j)) w3 ∧ w3.heap[wr.heap.size]? = some (.cells #[.int .i64 pk, .int .i64 pd, .int .i64 px, .string S] 113 (0, 0)) := by
                    rcases hw3 with rfl | rfl
                    · exact ⟨below_al hbel _, hbu.alloc _, heap_alloc_new _ _⟩
                    · exact ⟨below_dr (below_al hbel _), isB_drew (hbu.alloc _), heap_alloc_new wr _⟩
                  obtain ⟨hbw3, hbu3, hpg3⟩ := hbl3
                  clear hw3 htr hbu hbel
                  have hcp3 := blk_cell hpg3
                  have hzp3 := lt_of_block hpg3
                  have hcells : Hid (Lib.byteCells (got z l (j + 1)) = Lib.byteCells (got z l j) ++ Lib.strCells (S.extract 0 m)) := by
                    show _ = _
                    rw [got, Hp.out, HS.out, Lib.extract_mk]
                    simp [Lib.byteCells, Lib.strCells, ← Hm.out]
                  have hok1 : Hid (∀ i, i < j + 1 → ∃ p, l[i]? = some p ∧ PgOk z l.length i p) := fun i hi => by
                    rcases Nat.lt_or_eq_of_le (Nat.le_of_lt_succ hi) with h | rfl
                    · exact hoks.out i h
                    · have h3 := Hn.out
                      have hb1 := Hbx.out
                      have hb2 := Hbl.out
                      refine ⟨_, Hp.out, E1.out, ?_, E3.out, by rw [← Hm.out]; exact (trimB_nil _ _).1 HT.out.symm⟩
                      have hb3 := hb1.trans hb2.symm
                      rw [Bool.eq_iff_iff] at hb3
                      simp at hb3
                      show px = 0 ↔ _
                      omega
                  have hws := Tryz.Builder_WriteString_k w1.heap.size w1.heap.size (Lib.byteCells (got z l j)) (S.extract 0 m) w3 hbu3 (by
                    have h1 := got_len (z := z) (l := l) (len := l.length) j (by have := H1.out; omega) hoks.out
                    have h2 : (S.extract 0 m).size ≤ 240 := by rw [ByteArray.size_extract]; omega
                    rw [Lib.byteCells, List.length_map]
                    omega) hbw3.out.size
                  go_wp2_with fail
                  with_reducible refine hws.mono ?_
                  rintro e w4 ⟨rfl, hbu4, hbw4, _⟩
                  rw [← hcells.out] at hbu4
                  have hbw := below_tr' hbw3.out hbw4
                  clear hws hcp3 hzp3 hpg3 hbu3 hbw4
                  go_wp2_with fail
                  go_roundw
                  case rel => exact ⟨j + 1, by go_num, by omega, .inr hbu4, hbw, hok1⟩
                  case measure => simp [intOf]; omega
                · have hne : Hid (¬ GetOk z l) := fun h => by
                    have h4 := (h.2.2 j _ Hp.out).2.2.2
                    rw [← Hm.out] at h4
                    have := (trimB_nil (pb.drop m) 0).2 h4
                    rw [← HT.out] at this
                    cases this
                  go_wp2_with fail
                  with_reducible refine (htr _).mono ?_
                  rintro e w3 ⟨rfl, hw3⟩
                  have hbl3 : Hid (Below w1.heap.size w1 w3) := by
                    rcases hw3 with rfl | rfl
                    · exact below_al hbel _
                    · exact below_dr (below_al hbel _)
                  clear hw3 htr hbu hbel
                  go_wp2
                  go_ret2
                  exact ⟨.inr ⟨hne.out, rfl⟩, hbl3.out⟩
              · have d240 : (((str pb).size : Int) != 240) = true := by rw [str_size]; simp; omega
                have Hno : Hid (¬ GetOk z l) := fun h => e3 (h.2.2 j _ Hp.out).2.2.1
                clear hbu
                go_wp2
                go_ret2
                exact ⟨.inr ⟨Hno.out, rfl⟩, below_al hbel _⟩
            · have hxn : (bx != bl) = true := by simpa using e2
              clear hbx hbl'
              have hbx := Hbx.out
              have hbl' := Hbl.out
              have Hno : Hid (¬ GetOk z l) := fun h => e2 (by have h2 : px = 0 ↔ j + 1 = l.length := (h.2.2 j _ Hp.out).2.1; have h3 := Hn.out; rw [← Hbx.out, ← Hbl.out, Bool.eq_iff_iff]; simp; omega)
              clear hbu
              go_wp2
              go_ret2
              exact ⟨.inr ⟨Hno.out, rfl⟩, below_al hbel _⟩
          · have d5 : (pk != 5) = true := by simpa using e1
            clear hbx hbl'
            have Hno : Hid (¬ GetOk z l) := fun h => e1 (h.2.2 j _ Hp.out).1
            clear hbu
            go_wp2
            go_ret2
            exact ⟨.inr ⟨Hno.out, rfl⟩, below_al hbel _⟩
        · obtain rfl : j = n := by omega
          have hok : Hid (GetOk z l) := ⟨by have := Hn.out; have := H0.out; omega, by have := Hn.out; have := H1.out; omega, fun i p hp => by
            obtain ⟨q, h1, h2⟩ := hoks.out i (by rw [← Hn.out]; exact (List.getElem?_eq_some_iff.1 hp).1)
            rw [hp] at h1
            injection h1 with h1
            rw [h1]
            exact h2⟩
          have hst := Tryz.Builder_String_any_k w1.heap.size w1.heap.size (got z l j) wr hbu hbel.size
          go_wp2_with fail
          with_reducible refine hst.mono ?_
          rintro e w2 ⟨rfl, _, hb2, _⟩
          clear hst hbu
          go_wp2
          go_ret2
          exact ⟨.inl ⟨hok.out, by rw [Hn.out]; rfl⟩, below_tr' hbel hb2⟩
    · have hno : ¬ GetOk z l := fun h => h1 (by have := h.2.1; omega)
      have d1 : ((n : Int) != (pgI z : Int)) = true := by simp; omega
      have Hno := Lib.hid hno
      obtain ⟨P, hP⟩ : ∃ P, P = pgI z := ⟨_, rfl⟩
      rw [← hP] at d1 hpg
      clear hno hz hP h1 hn
      go_enter Tryz.func77, Tryz.ntmps77
      go_wp2_with fail
      refine (hpg _).mono ?_
      rintro e w1 ⟨rfl, rfl⟩
      clear hpg
      go_wp2
      go_ret2
      exact ⟨.inr ⟨Hno.out, rfl⟩, Below.refl _ _⟩
end Go.Proofs.YtijhamllnnilbaaGreatDoor.Bl
