/- Lemmas of the claim, in their order:
- The contract of blob.Put.
- The contract of blob.Get.
-/
import Derived.Test.YtijhamllnnilbaaGreatDoorR15
import Derived.Lib.TrimByte
import Derived.Lib.OthersKept
set_option linter.unusedVariables false
set_option linter.unusedSimpArgs false
namespace Go.Proofs.YtijhamllnnilbaaGreatDoor.Bl
open Go.RowKit Go.Proofs.YtijhamllnnilbaaGreatDoor.Mem Go.Proofs.YtijhamllnnilbaaGreatDoor.Pg

def part (l : List UInt8) (i : Nat) : List UInt8 := (l.drop (200 * i)).take 200
def body (l : List UInt8) (i : Nat) : List UInt8 := part l i ++ zs (240 - (part l i).length)
def nextOf (at' : List Int) (i : Nat) : Int := if i + 1 < at'.length then at'.getD (i + 1) 0 else 0
def pgRow (l : List UInt8) (at' : List Int) (i : Nat) : List Value := [.int .i64 5, .int .i64 0, .int .i64 (nextOf at' i), .string (str (body l i))]
def rows (l : List UInt8) (at' : List Int) : Nat → List Value
 | 0 => []
 | n + 1 => rows l at' n ++ pgRow l at' n
theorem rows_length (l : List UInt8) (at' : List Int) (n : Nat) : (rows l at' n).length = n * 4 := by
 induction n with
 | zero => rfl
 | succ n ih => rw [rows, List.length_append, ih]; simp [pgRow]; omega
theorem info_page : (Tryz.prog.info? 113).map (fun i => (i.zero, i.size, i.bytes)) = some (some (.agg #[.int .i64 0, .int .i64 0, .int .i64 0, .string ⟨#[]⟩]), 4, 40) := by kernel_rfl
theorem part_len (l : List UInt8) (j : Nat) : (part l j).length = min (l.length - 200 * j) 200 := by simp [part]; omega
theorem body_code {l : List UInt8} {j c : Nat} {sv Z : ByteArray} (hs : sv = str (l.drop (200 * j))) (hZ : Z = str (zs 240)) (hc : c = min sv.size 200) : sv.extract 0 c ++ Z.extract c 240 = str (body l j) := by
 subst hs hZ
 have hlen := part_len l j
 rw [str_size, List.length_drop] at hc
 have h1 : (l.drop (200 * j)).take c = part l j := by
  rw [part, hc]
  rcases Nat.le_total (l.length - 200 * j) 200 with h | h
  · rw [Nat.min_eq_left h, List.take_of_length_le (by simp), List.take_of_length_le (by simp; omega)]
  · rw [Nat.min_eq_right h]
 have h2 : ((zs 240).drop c).take (240 - c) = zs (240 - (part l j).length) := by
  rw [hlen, ← hc, zs, zs, List.drop_replicate, List.take_replicate, Nat.min_self]
 apply ByteArray.ext
 apply Array.toList_inj.1
 simp only [ByteArray.data_append, ByteArray.data_extract, Array.toList_append, Array.toList_extract, List.extract, body, Nat.sub_zero, List.drop_zero]
 rw [h1, h2]
theorem rest_code {l : List UInt8} {j c : Nat} {sv : ByteArray} (hs : sv = str (l.drop (200 * j))) (hc : c = min sv.size 200) : sv.extract c sv.size = str (l.drop (200 * (j + 1))) := by
 subst hs
 rw [str_size, List.length_drop] at hc
 apply ByteArray.ext
 apply Array.toList_inj.1
 simp only [ByteArray.data_extract, Array.toList_extract, List.extract, str_size, List.length_drop]
 rw [List.take_of_length_le (by rw [List.length_drop, List.length_drop]; omega), List.drop_drop]
 rcases Nat.le_total (l.length - 200 * j) 200 with h | h
 · rw [List.drop_eq_nil_of_le (by omega), List.drop_eq_nil_of_le (by omega)]
 · rw [show 200 * j + c = 200 * (j + 1) by omega]
def OkAt (at' : List Int) (i : Nat) : Prop := 2 ≤ at'.getD i 0 ∧ at'.getD i 0 < 64 ∧ (at'.take i).contains (at'.getD i 0) = false
def PutOk (l : List UInt8) (at' : List Int) : Prop := at'.length ≠ 0 ∧ at'.length = pgN l.length ∧ ∀ i, i < at'.length → OkAt at' i
def PutPost (w : World) (l : List UInt8) (at' : List Int) (e : Ending) (w' : World) : Prop :=
 (PutOk l at' ∧ ∃ v, e = .returned (.tuple #[v, .bool true]) ∧ w'.ownsRow w.heap.size 113 4 v at'.length (rows l at' at'.length) ∧ Below w.heap.size w w') ∨
 (¬ PutOk l at' ∧ e = .returned (.tuple #[.slice none 0 0, .bool false]) ∧ Below w.heap.size w w')

set_option maxRecDepth 100000 in
set_option maxHeartbeats 4000000 in
theorem put_any (l : List UInt8) (A : Option Addr) (n cap : Nat) (at' : List Int) (w : World) (hl : l.length ≤ 1000)
 (hz : Ints w A n at') (hcap : n ≤ cap) : Calls Tryz.prog 74 #[.string (str l), .slice A n cap] w (PutPost w l at') := by
 have hpg := fun w => blobPages_any l.length w (by omega)
 have hss := str_size l
 have hn : at'.length = n := hz.1
 obtain ⟨i0, hi, hz0, hz1, hz2⟩ := info_parts info_page
 by_cases h0 : n = 0
 · have hno : ¬ PutOk l at' := fun h => h.1 (by omega)
   have d0 : ((n : Int) == 0) = true := by simp; omega
   have Hno := Lib.hid hno
   clear hno hpg hz
   generalize str l = s at hss ⊢
   subst h0
   go_enter Tryz.func74, Tryz.ntmps74
   go_wp2
   go_ret2
   exact .inr ⟨Hno.out, rfl, Below.refl _ _⟩
 · have d0 : ((n : Int) == 0) = false := by simp; omega
   by_cases h1 : n = pgN l.length
   · have d1 : ((n : Int) != (pgN l.length : Int)) = false := by simp; omega
     have hn2 : n ≤ 2 := by have := pgN_le l.length; omega
     have H1 := Lib.hid h1
     have H0 := Lib.hid h0
     obtain ⟨P, hP⟩ : ∃ P, P = pgN l.length := ⟨_, rfl⟩
     rw [← hP] at d1 hpg
     have HP := Lib.hid hP
     obtain ⟨b, off, rfl, hbl, hcell⟩ := hz.2.2 (by omega)
     have Hcell := Lib.hid hcell
     have Hn := Lib.hid hn
     clear hP h1 h0 hz hcell hn
     obtain ⟨s, hs⟩ : ∃ s, s = str l := ⟨_, rfl⟩
     rw [← hs] at hss ⊢
     have Hs := Lib.hid hs
     clear hs
     go_enter Tryz.func74, Tryz.ntmps74
     go_wp2_with fail
     refine (hpg _).mono ?_
     rintro e w1 ⟨rfl, rfl⟩
     clear hpg
     go_wp2_with fail
     go_loopw [0, 6, 24] (fun v o i wr => ∃ (j : Nat) (sv : ByteArray), i = .int .i64 j ∧ j ≤ n ∧ v = .string sv ∧ Hid (sv = str (l.drop (200 * j))) ∧ wr.ownsRow w1.heap.size 113 4 o j (rows l at' j) ∧ Below w1.heap.size w1 wr ∧ Hid (∀ i, i < j → OkAt at' i)) (fun _ _ i _ => n - (intOf i).toNat)
     case atStart => exact ⟨0, s, rfl, Nat.zero_le _, rfl, Hs, ⟨rfl, .inl ⟨rfl, rfl⟩⟩, Below.refl _ _, Lib.hid (fun i hi => absurd hi (by omega))⟩
     case round =>
      obtain ⟨j, sv, rfl, hj, rfl, hsv, hown, hbel, hoks⟩ := hrel
      by_cases hlt : j < n
      · have hx := (hbel.cell (p := ⟨b, off + j, none⟩) hbl).trans (Hcell.out j hlt)
        obtain ⟨g, hg⟩ : ∃ g, g = at'.getD j 0 := ⟨_, rfl⟩
        rw [← hg] at hx
        have Hg := Lib.hid hg
        clear hg
        have hcon := fun W (hW : Below w1.heap.size w1 W) => Tryz.slices_Contains_int b off j cap at' g W (by have := Hn.out; omega) (by omega) (fun i hi => (hW.cell (p := ⟨b, off + i, none⟩) hbl).trans (Hcell.out i (by have := Hn.out; omega)))
        by_cases h2 : g < 2
        · have d2 : decide (g < 2) = true := by simpa using h2
          clear hcon
          have hno : ¬ PutOk l at' := fun h => by have := (h.2.2 j (by have := Hn.out; omega)).1; rw [← Hg.out] at this; omega
          have Hno := Lib.hid hno
          clear hno
          go_wp2
          go_ret2
          exact .inr ⟨Hno.out, rfl, hbel⟩
        · have d2 : decide (g < 2) = false := by simpa using h2
          by_cases h64 : 64 ≤ g
          · have d64 : decide (64 ≤ g) = true := by simpa using h64
            clear hcon
            have hno : ¬ PutOk l at' := fun h => by have := (h.2.2 j (by have := Hn.out; omega)).2.1; rw [← Hg.out] at this; omega
            have Hno := Lib.hid hno
            clear hno
            go_wp2
            go_ret2
            exact .inr ⟨Hno.out, rfl, hbel⟩
          · have d64 : decide (64 ≤ g) = false := by simpa using h64
            rcases hct : (at'.take j).contains g with _ | _
            · rw [hct] at hcon
              have hokj : OkAt at' j := ⟨by rw [← Hg.out]; omega, by rw [← Hg.out]; omega, by rw [← Hg.out]; exact hct⟩
              have Hokj := Lib.hid hokj
              clear hokj hct
              have hem := fun w => empty_any 5 0 w
              obtain ⟨Z, hZ⟩ : ∃ Z, Z = str (zs 240) := ⟨_, rfl⟩
              have hZs : Z.size = 240 := by rw [hZ, str_size]; exact List.length_replicate
              rw [← hZ] at hem
              have HZ := Lib.hid hZ
              obtain ⟨c, hc⟩ : ∃ c, c = min sv.size 200 := ⟨_, rfl⟩
              have hmin : min (sv.size : Int) 200 = (c : Int) := by omega
              have hc1 : min c sv.size = c := by omega
              have hc2 : c ≤ sv.size := by omega
              have hc3 : (c : Int) ≤ (sv.size : Int) := by omega
              have hc4 : c ≤ 200 := by omega
              have Hc := Lib.hid hc
              clear hZ hc
              have hjn : (j : Int) ≤ (n : Int) := by omega
              go_wp2_with fail
              refine (hcon _ hbel).mono ?_
              rintro e w2 ⟨rfl, rfl⟩
              clear hcon
              go_wp2_with fail
              refine (hem _).mono ?_
              rintro e w3 ⟨rfl, hb3⟩
              have hbw3 := below_tr hbel hb3
              have hown3 := own_below hown hb3
              clear hem hb3 hown hbel hx
              by_cases hnx : j + 1 < n
              · have dn : decide ((j : Int) + 1 < (n : Int)) = true := by simp; omega
                have hxn := (hbw3.cell (p := ⟨b, off + (j + 1), none⟩) hbl).trans (Hcell.out (j + 1) hnx)
                have hbl3 : b < w3.heap.size := Nat.lt_of_lt_of_le hbl hbw3.size
                generalize hgn : at'.getD (j + 1) 0 = gn at hxn
                have hnext : nextOf at' j = gn := by unfold nextOf; rw [if_pos (by have := Hn.out; omega), hgn]
                have Hnext := Lib.hid hnext
                clear hgn hnext
                have hbody : sv.extract 0 c ++ Z.extract c 240 = str (body l j) := body_code hsv.out HZ.out Hc.out
                have hrest : sv.extract c sv.size = str (l.drop (200 * (j + 1))) := rest_code hsv.out Hc.out
                generalize hT : sv.extract 0 c ++ Z.extract c 240 = T at hbody
                have HB := Lib.hid hbody
                have HR := Lib.hid hrest
                clear hbody hrest
                go_wp2_with (at_builtin; refine wpList_append_own _ rfl (.tmp 71) (.tmp 73) _ rfl w1.heap.size 113 i0 (.agg #[.int .i64 0, .int .i64 0, .int .i64 0, .string ⟨#[]⟩]) 4 40 Tryz.underlying68 hi hz0 hz1 hz2 rfl (by decide) _ j (rows l at' j) rfl ((hown3.alloc _).alloc _) ⟨w3.heap.size + 1, 0, none⟩ 1 1 [.int .i64 5, .int .i64 0, .int .i64 gn, .string T] rfl rfl (cells_new _ _ (by simp) _ _) (by intro u hu; simp at hu; rcases hu with rfl | rfl | rfl | rfl <;> rfl) (by unfold maxLen; omega) (by omega) (by have := hbw3.size; simp; omega) ?_; intro v' w4 hown4 hgrow _)
                go_roundw
                case rel =>
                 refine ⟨j + 1, _, by go_num, by omega, rfl, HR, ?_, ?_, Lib.hid (fun i hi => ?_)⟩
                 · rw [rows, pgRow, ← HB.out, Hnext.out]
                   exact hown4
                 · exact below_grown (below_al (below_al hbw3 _) _) (by have := hbw3.size; simp; omega) hown3 hgrow
                 · rcases Nat.lt_or_eq_of_le (Nat.le_of_lt_succ hi) with h | h
                   · exact hoks.out i h
                   · rw [h]; exact Hokj.out
                case measure => simp [intOf]; omega
              · have dn : decide ((j : Int) + 1 < (n : Int)) = false := by simp; omega
                have hnext : nextOf at' j = 0 := by unfold nextOf; rw [if_neg (by have := Hn.out; omega)]
                have Hnext := Lib.hid hnext
                clear hnext
                have hbody : sv.extract 0 c ++ Z.extract c 240 = str (body l j) := body_code hsv.out HZ.out Hc.out
                have hrest : sv.extract c sv.size = str (l.drop (200 * (j + 1))) := rest_code hsv.out Hc.out
                generalize hT : sv.extract 0 c ++ Z.extract c 240 = T at hbody
                have HB := Lib.hid hbody
                have HR := Lib.hid hrest
                clear hbody hrest
                go_wp2_with (at_builtin; refine wpList_append_own _ rfl (.tmp 71) (.tmp 73) _ rfl w1.heap.size 113 i0 (.agg #[.int .i64 0, .int .i64 0, .int .i64 0, .string ⟨#[]⟩]) 4 40 Tryz.underlying68 hi hz0 hz1 hz2 rfl (by decide) _ j (rows l at' j) rfl ((hown3.alloc _).alloc _) ⟨w3.heap.size + 1, 0, none⟩ 1 1 [.int .i64 5, .int .i64 0, .int .i64 0, .string T] rfl rfl (cells_new _ _ (by simp) _ _) (by intro u hu; simp at hu; rcases hu with rfl | rfl | rfl | rfl <;> rfl) (by unfold maxLen; omega) (by omega) (by have := hbw3.size; simp; omega) ?_; intro v' w4 hown4 hgrow _)
                go_roundw
                case rel =>
                 refine ⟨j + 1, _, by go_num, by omega, rfl, HR, ?_, ?_, Lib.hid (fun i hi => ?_)⟩
                 · rw [rows, pgRow, ← HB.out, Hnext.out]
                   exact hown4
                 · exact below_grown (below_al (below_al hbw3 _) _) (by have := hbw3.size; simp; omega) hown3 hgrow
                 · rcases Nat.lt_or_eq_of_le (Nat.le_of_lt_succ hi) with h | h
                   · exact hoks.out i h
                   · rw [h]; exact Hokj.out
                case measure => simp [intOf]; omega
            · rw [hct] at hcon
              have hno : ¬ PutOk l at' := fun h => by have := (h.2.2 j (by have := Hn.out; omega)).2.2; rw [← Hg.out, hct] at this; exact absurd this (by decide)
              have Hno := Lib.hid hno
              have hjn : (j : Int) ≤ (n : Int) := by omega
              clear hno hct
              go_wp2_with fail
              refine (hcon _ hbel).mono ?_
              rintro e w2 ⟨rfl, rfl⟩
              clear hcon
              go_wp2
              go_ret2
              exact .inr ⟨Hno.out, rfl, hbel⟩
      · obtain rfl : j = n := by omega
        have hok : PutOk l at' := ⟨by have := Hn.out; have := H0.out; omega, by have := Hn.out; have := H1.out; omega, fun i hi => hoks.out i (by have := Hn.out; omega)⟩
        have Hok := Lib.hid hok
        clear hok
        go_wp2
        go_ret2
        exact .inl ⟨Hok.out, _, rfl, by rw [Hn.out]; exact hown, hbel⟩
   · have hno : ¬ PutOk l at' := fun h => h1 (by have := h.2.1; omega)
     have d1 : ((n : Int) != (pgN l.length : Int)) = true := by simp; omega
     have Hno := Lib.hid hno
     have Hd := Lib.hid h1
     obtain ⟨P, hP⟩ : ∃ P, P = pgN l.length := ⟨_, rfl⟩
     rw [← hP] at d1 hpg
     clear hno hz hP h1
     generalize str l = s at hss ⊢
     go_enter Tryz.func74, Tryz.ntmps74
     go_wp2_with fail
     refine (hpg _).mono ?_
     rintro e w1 ⟨rfl, rfl⟩
     clear hpg
     go_wp2
     go_ret2
     exact .inr ⟨Hno.out, rfl, Below.refl _ _⟩
end Go.Proofs.YtijhamllnnilbaaGreatDoor.Bl
namespace Go.Proofs.YtijhamllnnilbaaGreatDoor.Bl
open Go.RowKit Go.Proofs.YtijhamllnnilbaaGreatDoor.Mem Go.Proofs.YtijhamllnnilbaaGreatDoor.Pg

theorem dropWhile_nil {α : Type} (p : α → Bool) : ∀ l : List α, l.dropWhile p = [] ↔ ∀ x ∈ l, p x = true
 | [] => by simp
 | a :: l => by
  by_cases h : p a = true
  · simp [h, dropWhile_nil p l]
  · simp [h]
theorem trimB_nil (l : List UInt8) (c : UInt8) : Lib.trimB l c = [] ↔ ∀ x ∈ l, x = c := by
 unfold Lib.trimB Lib.trimLeftB Lib.trimRightB
 rw [dropWhile_nil]
 constructor
 · intro h x hx
   have h0 : l.reverse.dropWhile (· == c) = [] := by
    rcases hd : l.reverse.dropWhile (· == c) with _ | ⟨y, ys⟩
    · rfl
    · have h1 := List.head_dropWhile_not (fun x => x == c) (l := l.reverse) (by rw [hd]; simp)
      have h2 := h y (by rw [hd]; simp)
      simp [hd] at h1
      simp at h2
      exact absurd h2 h1
   rw [dropWhile_nil] at h0
   simpa using h0 x (by simpa using hx)
 · intro h x hx
   have h0 : l.reverse.dropWhile (· == c) = [] := by
    rw [dropWhile_nil]
    intro y hy
    simpa using h y (by simpa using hy)
   rw [h0] at hx
   simp at hx
structure Pg where
 (k d x : Int)
 b : List UInt8
def Pg.cells (p : Pg) : List Value := [.int .i64 p.k, .int .i64 p.d, .int .i64 p.x, .string (str p.b)]
def Pgs (w : World) (A : Option Addr) (n : Nat) (l : List Pg) : Prop :=
 l.length = n ∧ n ≤ 1000 ∧ (0 < n → ∃ b off, A = some ⟨b, off, none⟩ ∧ b < w.heap.size ∧ ∀ i p, l[i]? = some p → ∀ j u, p.cells[j]? = some u → w.cell? ⟨b, off + i * 4 + j, none⟩ = some u)
def nAt (z : Int) (i : Nat) : Nat := min (z - 200 * i).toNat 200
def PgOk (z : Int) (len i : Nat) (p : Pg) : Prop := p.k = 5 ∧ (p.x = 0 ↔ i + 1 = len) ∧ p.b.length = 240 ∧ ∀ c ∈ p.b.drop (nAt z i), c = 0
def GetOk (z : Int) (l : List Pg) : Prop := l.length ≠ 0 ∧ l.length = pgI z ∧ ∀ i p, l[i]? = some p → PgOk z l.length i p
def got (z : Int) (l : List Pg) : Nat → List UInt8
 | 0 => []
 | j + 1 => got z l j ++ match l[j]? with | some p => p.b.take (nAt z j) | none => []
def GetPost (w : World) (z : Int) (l : List Pg) (e : Ending) (w' : World) : Prop :=
 ((GetOk z l ∧ e = .returned (.tuple #[.string (str (got z l l.length)), .bool true])) ∨ (¬ GetOk z l ∧ e = .returned (.tuple #[.string ⟨#[]⟩, .bool false]))) ∧ Below w.heap.size w w'
theorem pgI_lt (z : Int) (j : Nat) (h : j < pgI z) : 200 * (j : Int) < z ∧ 40 < z ∧ z ≤ 400 := by
 unfold pgI at h
 split at h <;> omega
theorem got_len {z : Int} {l : List Pg} {len : Nat} : ∀ j, j < pgI z → (∀ i, i < j → ∃ p, l[i]? = some p ∧ PgOk z len i p) → (got z l j).length = 200 * j := by
 intro j
 induction j with
 | zero => intro _ _; rfl
 | succ j ih =>
  intro h hp
  obtain ⟨p, h1, h2⟩ := hp j (by omega)
  have hz := pgI_lt z (j + 1) h
  have := h2.2.2.1
  rw [got, h1, List.length_append, ih (by omega) (fun i hi => hp i (by omega)), List.length_take, this]
  unfold nAt
  omega
theorem ext_drop (l : List UInt8) (n : Nat) : (str l).extract n (str l).size = str (l.drop n) := by
 rw [str_size, Lib.extract_mk, List.take_of_length_le (by simp)]
theorem isB_drew {T e : TypeId} {B b : Nat} {bs : List Value} {w : World} (h : Lib.IsBuilderF T e B b bs w) : Lib.IsBuilderF T e B b bs w.drew := h.imp Lib.BuilderAtF.drew Lib.BuilderAtF.drew

theorem below_tr' {B : Nat} {a b c : World} (h : Below B a b) (k : Below B b c) : Below B a c := h.trans k

set_option maxRecDepth 100000 in
set_option maxHeartbeats 4000000 in
theorem get_any (z : Int) (A : Option Addr) (n cap : Nat) (l : List Pg) (w : World) (hz : Pgs w A n l) :
 Calls Tryz.prog 77 #[.int .i64 z, .slice A n cap] w (GetPost w z l) := by
 have hpg := fun w => blobPagesI_any z w
 have hn : l.length = n := hz.1
 by_cases h0 : n = 0
 · have hno : ¬ GetOk z l := fun h => h.1 (by omega)
   have d0 : ((n : Int) == 0) = true := by simp; omega
   have Hno := Lib.hid hno
   clear hno hpg hz hn
   subst h0
   go_enter Tryz.func77, Tryz.ntmps77
   go_wp2
   go_ret2
   exact ⟨.inr ⟨Hno.out, rfl⟩, Below.refl _ _⟩
 · have d0 : ((n : Int) == 0) = false := by simp; omega
   by_cases h1 : n = pgI z
   · have d1 : ((n : Int) != (pgI z : Int)) = false := by simp; omega
     have hn2 : n ≤ 2 := by have := pgI_le z; omega
     have H1 := Lib.hid h1
     have H0 := Lib.hid h0
     obtain ⟨P, hP⟩ : ∃ P, P = pgI z := ⟨_, rfl⟩
     rw [← hP] at d1 hpg
     have HP := Lib.hid hP
     obtain ⟨b, off, rfl, hbl, hcell⟩ := hz.2.2 (by omega)
     have Hcell := Lib.hid hcell
     have Hn := Lib.hid hn
     clear hP h1 h0 hz hcell hn
     go_enter Tryz.func77, Tryz.ntmps77
     go_wp2_with fail
     refine (hpg _).mono ?_
     rintro e w1 ⟨rfl, rfl⟩
     clear hpg
     go_wp2_with fail
     go_loopw [23] (fun i wr => ∃ j : Nat, i = .int .i64 j ∧ j ≤ n ∧ Lib.IsBuilderF 239 5 w1.heap.size w1.heap.size (Lib.byteCells (got z l j)) wr ∧ Below w1.heap.size w1 wr ∧ Hid (∀ i, i < j → ∃ p, l[i]? = some p ∧ PgOk z l.length i p)) (fun i _ => n - (intOf i).toNat)
     case atStart => exact ⟨0, rfl, Nat.zero_le _, .inl ⟨Nat.le_refl _, .slice none 0 0, heap_alloc_new _ _, World.ownsRowF_of (World.ownsRow_nil _ _ _ _), by simp [Value.ownBlock]⟩, below_al (Below.refl _ _) _, Lib.hid (fun i hi => absurd hi (by omega))⟩
     case round =>
      obtain ⟨j, rfl, hj, hbu, hbel, hoks⟩ := hrel
      by_cases hlt : j < n
      · obtain ⟨p, hp⟩ : ∃ p, l[j]? = some p := ⟨l[j]'(by have := Hn.out; omega), by rw [List.getElem?_eq_getElem]⟩
        obtain ⟨pk, pd, px, pb⟩ := p
        have c0 := (hbel.cell (p := ⟨b, off + j * 4 + 0, none⟩) hbl).trans (Hcell.out j _ hp 0 _ rfl)
        have c1 := (hbel.cell (p := ⟨b, off + j * 4 + 1, none⟩) hbl).trans (Hcell.out j _ hp 1 _ rfl)
        have c2 := (hbel.cell (p := ⟨b, off + j * 4 + 2, none⟩) hbl).trans (Hcell.out j _ hp 2 _ rfl)
        have c3 := (hbel.cell (p := ⟨b, off + j * 4 + 3, none⟩) hbl).trans (Hcell.out j _ hp 3 _ rfl)
        rw [Nat.add_zero] at c0
        have hz := pgI_lt z j (by have := H1.out; omega)
        have hgl : (Lib.byteCells (got z l j)).length = 200 * j := by rw [Lib.byteCells, List.length_map]; exact got_len j (by have := H1.out; omega) hoks.out
        have hlen := fun W h => Tryz.Builder_Len_f w1.heap.size w1.heap.size (Lib.byteCells (got z l j)) W h
        rw [hgl] at hlen
        obtain ⟨m, hm⟩ : ∃ m, m = nAt z j := ⟨_, rfl⟩
        have hmin : min (z - ((200 * j : Nat) : Int)) 200 = (m : Int) := by rw [hm, nAt]; omega
        have hm2 : m ≤ 200 := by rw [hm, nAt]; omega
        have hwr : IntKind.i64.wrap (z - ((200 * j : Nat) : Int)) = z - ((200 * j : Nat) : Int) := IntWalk.i64_in _ (by omega)
        have hwr2 : wrap64 (z - ((200 * j : Nat) : Int)) = z - ((200 * j : Nat) : Int) := IntWalk.wrap64_in _ (by omega)
        have Hm := Lib.hid hm
        have Hz := Lib.hid hz
        have Hp := Lib.hid hp
        clear hm hz hp hgl
        obtain ⟨J, hJ⟩ : ∃ J, J = 200 * j := ⟨_, rfl⟩
        rw [← hJ] at hlen hmin hwr hwr2
        clear hJ
        go_wp2_with fail
        with_reducible refine (hlen _ (hbu.alloc _)).mono ?_
        rintro e w2 ⟨rfl, rfl⟩
        clear hlen
        generalize hbx : (px == 0) = bx
        generalize hbl' : ((j : Int) + 1 == (n : Int)) = bl
        have Hbx := Lib.hid hbx
        have Hbl := Lib.hid hbl'
        by_cases e1 : pk = 5
        · have d5 : (pk != 5) = false := by simpa using e1
          have E1 := Lib.hid e1
          clear e1
          by_cases e2 : bx = bl
          · subst e2
            by_cases e3 : pb.length = 240
            · have d240 : (((str pb).size : Int) != 240) = false := by rw [str_size]; simp; omega
              have hms : m ≤ (str pb).size := by rw [str_size]; omega
              have hms2 : (m : Int) ≤ ((str pb).size : Int) := by omega
              have htr := fun W => Tryz.strings_Trim_one ((str pb).extract m (str pb).size) 0 (by decide) W (by rw [ext_drop, str_size, List.length_drop]; omega)
              have hdt : ((str pb).extract m (str pb).size).data.toList = pb.drop m := by rw [ext_drop]
              rw [hdt] at htr
              have E3 := Lib.hid e3
              have hs240 : (str pb).size = 240 := by rw [str_size]; exact e3
              obtain ⟨T, hT⟩ : ∃ T, T = Lib.trimB (pb.drop m) 0 := ⟨_, rfl⟩
              rw [← hT] at htr
              have HT := Lib.hid hT
              clear e3 hdt hT
              obtain ⟨S, hS⟩ : ∃ S, S = str pb := ⟨_, rfl⟩
              rw [← hS] at d240 hms hms2 htr hs240 ⊢
              rw [hs240] at htr hms hms2 d240
              have HS := Lib.hid hS
              clear hS
              rcases T with _ | ⟨t0, ts⟩
              · go_wp2_with fail
                with_reducible refine (htr _).mono ?_
                rintro e w3 ⟨rfl, hw3⟩
                have hbl3 : Hid (Below w1.heap.size w1 w3) ∧ Lib.IsBuilderF 239 5 w1.heap.size w1.heap.size (Lib.byteCells (got z l j)) w3 ∧ w3.heap[wr.heap.size]? = some (.cells #[.int .i64 pk, .int .i64 pd, .int .i64 px, .string S] 113 (0, 0)) := by
                 rcases hw3 with rfl | rfl
                 · exact ⟨below_al hbel _, hbu.alloc _, heap_alloc_new _ _⟩
                 · exact ⟨below_dr (below_al hbel _), isB_drew (hbu.alloc _), heap_alloc_new wr _⟩
                obtain ⟨hbw3, hbu3, hpg3⟩ := hbl3
                clear hw3 htr hbu hbel
                have hcp3 := blk_cell hpg3
                have hzp3 := lt_of_block hpg3
                have hcells : Hid (Lib.byteCells (got z l (j + 1)) = Lib.byteCells (got z l j) ++ Lib.strCells (S.extract 0 m)) := by
                 show _ = _
                 rw [got, Hp.out, HS.out, Lib.extract_mk]
                 simp [Lib.byteCells, Lib.strCells, ← Hm.out]
                have hok1 : Hid (∀ i, i < j + 1 → ∃ p, l[i]? = some p ∧ PgOk z l.length i p) := fun i hi => by
                 rcases Nat.lt_or_eq_of_le (Nat.le_of_lt_succ hi) with h | rfl
                 · exact hoks.out i h
                 · have h3 := Hn.out
                   have hb1 := Hbx.out
                   have hb2 := Hbl.out
                   refine ⟨_, Hp.out, E1.out, ?_, E3.out, by rw [← Hm.out]; exact (trimB_nil _ _).1 HT.out.symm⟩
                   have hb3 := hb1.trans hb2.symm
                   rw [Bool.eq_iff_iff] at hb3
                   simp at hb3
                   show px = 0 ↔ _
                   omega
                have hws := Tryz.Builder_WriteString_k w1.heap.size w1.heap.size (Lib.byteCells (got z l j)) (S.extract 0 m) w3 hbu3 (by
                 have h1 := got_len (z := z) (l := l) (len := l.length) j (by have := H1.out; omega) hoks.out
                 have h2 : (S.extract 0 m).size ≤ 240 := by rw [ByteArray.size_extract]; omega
                 rw [Lib.byteCells, List.length_map]
                 omega) hbw3.out.size
                go_wp2_with fail
                with_reducible refine hws.mono ?_
                rintro e w4 ⟨rfl, hbu4, hbw4, _⟩
                rw [← hcells.out] at hbu4
                have hbw := below_tr' hbw3.out hbw4
                clear hws hcp3 hzp3 hpg3 hbu3 hbw4
                go_wp2_with fail
                go_roundw
                case rel => exact ⟨j + 1, by go_num, by omega, .inr hbu4, hbw, hok1⟩
                case measure => simp [intOf]; omega
              · have hne : Hid (¬ GetOk z l) := fun h => by
                 have h4 := (h.2.2 j _ Hp.out).2.2.2
                 rw [← Hm.out] at h4
                 have := (trimB_nil (pb.drop m) 0).2 h4
                 rw [← HT.out] at this
                 cases this
                go_wp2_with fail
                with_reducible refine (htr _).mono ?_
                rintro e w3 ⟨rfl, hw3⟩
                have hbl3 : Hid (Below w1.heap.size w1 w3) := by
                 rcases hw3 with rfl | rfl
                 · exact below_al hbel _
                 · exact below_dr (below_al hbel _)
                clear hw3 htr hbu hbel
                go_wp2
                go_ret2
                exact ⟨.inr ⟨hne.out, rfl⟩, hbl3.out⟩
            · have d240 : (((str pb).size : Int) != 240) = true := by rw [str_size]; simp; omega
              have Hno : Hid (¬ GetOk z l) := fun h => e3 (h.2.2 j _ Hp.out).2.2.1
              clear hbu
              go_wp2
              go_ret2
              exact ⟨.inr ⟨Hno.out, rfl⟩, below_al hbel _⟩
          · have hxn : (bx != bl) = true := by simpa using e2
            clear hbx hbl'
            have hbx := Hbx.out
            have hbl' := Hbl.out
            have Hno : Hid (¬ GetOk z l) := fun h => e2 (by have h2 : px = 0 ↔ j + 1 = l.length := (h.2.2 j _ Hp.out).2.1; have h3 := Hn.out; rw [← Hbx.out, ← Hbl.out, Bool.eq_iff_iff]; simp; omega)
            clear hbu
            go_wp2
            go_ret2
            exact ⟨.inr ⟨Hno.out, rfl⟩, below_al hbel _⟩
        · have d5 : (pk != 5) = true := by simpa using e1
          clear hbx hbl'
          have Hno : Hid (¬ GetOk z l) := fun h => e1 (h.2.2 j _ Hp.out).1
          clear hbu
          go_wp2
          go_ret2
          exact ⟨.inr ⟨Hno.out, rfl⟩, below_al hbel _⟩
      · obtain rfl : j = n := by omega
        have hok : Hid (GetOk z l) := ⟨by have := Hn.out; have := H0.out; omega, by have := Hn.out; have := H1.out; omega, fun i p hp => by
         obtain ⟨q, h1, h2⟩ := hoks.out i (by rw [← Hn.out]; exact (List.getElem?_eq_some_iff.1 hp).1)
         rw [hp] at h1
         injection h1 with h1
         rw [h1]
         exact h2⟩
        have hst := Tryz.Builder_String_any_k w1.heap.size w1.heap.size (got z l j) wr hbu hbel.size
        go_wp2_with fail
        with_reducible refine hst.mono ?_
        rintro e w2 ⟨rfl, _, hb2, _⟩
        clear hst hbu
        go_wp2
        go_ret2
        exact ⟨.inl ⟨hok.out, by rw [Hn.out]; rfl⟩, below_tr' hbel hb2⟩
   · have hno : ¬ GetOk z l := fun h => h1 (by have := h.2.1; omega)
     have d1 : ((n : Int) != (pgI z : Int)) = true := by simp; omega
     have Hno := Lib.hid hno
     obtain ⟨P, hP⟩ : ∃ P, P = pgI z := ⟨_, rfl⟩
     rw [← hP] at d1 hpg
     clear hno hz hP h1 hn
     go_enter Tryz.func77, Tryz.ntmps77
     go_wp2_with fail
     refine (hpg _).mono ?_
     rintro e w1 ⟨rfl, rfl⟩
     clear hpg
     go_wp2
     go_ret2
     exact ⟨.inr ⟨Hno.out, rfl⟩, Below.refl _ _⟩
end Go.Proofs.YtijhamllnnilbaaGreatDoor.Bl
