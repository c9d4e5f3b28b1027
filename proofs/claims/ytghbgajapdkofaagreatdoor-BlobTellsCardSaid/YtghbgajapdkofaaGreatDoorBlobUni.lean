/- Put and Get, the program's and the reference's, under one form each: what both answer is the same; a value's pages give it back. -/
import Derived.Test.YtghbgajapdkofaaGreatDoorBlobRefPut
import Derived.Test.YtghbgajapdkofaaGreatDoorBlobRefGet
import Derived.Test.YtghbgajapdkofaaGreatDoorBlobBack
import Derived.Test.YtghbgajapdkofaaGreatDoorBookPgLent
import Derived.Test.YtghbgajapdkofaaGreatDoorBookLent
namespace Go.Proofs.YtghbgajapdkofaaGreatDoor.Bl
open Go.RowKit Go.Proofs.YtghbgajapdkofaaGreatDoor.Mem Go.Proofs.YtghbgajapdkofaaGreatDoor.Pg Go.Proofs.YtghbgajapdkofaaGreatDoor.Bp

def toPg (p : P4) : Pg := ⟨p.k, p.d, p.x, p.s.data.toList⟩
theorem toPg_cells (p : P4) : (toPg p).cells = p.cells := by
  show [_, _, _, _] = [_, _, _, _]
  rw [show str (toPg p).b = p.s from (str_of p.s).symm]
  rfl
theorem pgs_of_rp {w : World} {A : Option Addr} {L : List P4} (h : Rp w A L) (hl : L.length ≤ 1000) : Pgs w A L.length (L.map toPg) := by
  refine ⟨by simp, hl, fun h0 => ?_⟩
  obtain ⟨b, off, hA, hb, hc⟩ := h.2 h0
  refine ⟨b, off, hA, hb, fun i p hp j u hu => ?_⟩
  rw [List.getElem?_map] at hp
  cases hq : L[i]? with
  | none => rw [hq] at hp; cases hp
  | some q =>
    rw [hq] at hp
    obtain rfl : toPg q = p := by simpa using hp
    rw [toPg_cells] at hu
    have hj : j < 4 := by have := (List.getElem?_eq_some_iff.1 hu).1; simpa [P4.cells] using this
    rw [hc i q hq j hj, hu]
/-- The pages of a value, as the book has them. -/
def put4 (l : List UInt8) (at' : List Int) (n : Nat) : List P4 := (List.range n).map fun i => ⟨5, 0, nextOf at' i, str (body l i)⟩
theorem put4_len (l : List UInt8) (at' : List Int) (n : Nat) : (put4 l at' n).length = n := by simp [put4]
theorem put4_rows (l : List UInt8) (at' : List Int) : ∀ n, pages (put4 l at' n) = rows l at' n
  | 0 => rfl
  | n + 1 => by
    rw [rows, ← put4_rows l at' n, put4, List.range_succ, List.map_append, pages_app]
    rfl
theorem put4_pg (l : List UInt8) (at' : List Int) (n : Nat) : (put4 l at' n).map toPg = putPg l at' n := by
  rw [put4, putPg, List.map_map]
  rfl
abbrev PutU (w : World) (ok : Bool) (xs : List P4) (e : Ending) (w' : World) : Prop :=
  ∃ v, e = .returned (.tuple #[v, .bool ok]) ∧ w'.ownsRow w.heap.size 26 4 v xs.length (pages xs) ∧ Below w.heap.size w w'
abbrev GetU (w : World) (sv : ByteArray) (on : Bool) (e : Ending) (w' : World) : Prop :=
  e = .returned (.tuple #[.string sv, .bool on]) ∧ Below w.heap.size w w'
theorem putU_of {w : World} {l : List UInt8} {at' : List Int} (h : PutOk l at') {e : Ending} {w' : World} (hp : PutPost w l at' e w') : PutU w true (put4 l at' at'.length) e w' := by
  rcases hp with ⟨_, v, he, ho, hb⟩ | ⟨hno, _⟩
  · exact ⟨v, he, by rw [put4_len, put4_rows]; exact ho, hb⟩
  · exact absurd h hno
theorem putU_no {w : World} {l : List UInt8} {at' : List Int} (h : ¬ PutOk l at') {e : Ending} {w' : World} (hp : PutPost w l at' e w') : PutU w false [] e w' := by
  rcases hp with ⟨hok, _⟩ | ⟨_, he, hb⟩
  · exact absurd hok h
  · exact ⟨_, he, World.ownsRow_nil _ _ _ _, hb⟩
theorem put_uni (l : List UInt8) (hl : l.length ≤ 1000) (at' : List Int) : ∃ (ok : Bool) (xs : List P4), xs.length ≤ 2 ∧
    (∀ A n cap w, Ints w A n at' → n ≤ cap → Calls Tryz.prog 6 #[.string (str l), .slice A n cap] w (PutU w ok xs)) ∧
    (∀ A n cap w, Ints w A n at' → Calls Tryz.prog 7 #[.string (str l), .slice A n cap] w (PutU w ok xs)) ∧
    (ok = true → ∀ A cap w, Rp w A xs → Calls Tryz.prog 9 #[.int .i64 l.length, .slice A xs.length cap] w (GetU w (str l) true)) := by
  by_cases h : PutOk l at'
  · have h2 : at'.length ≤ 2 := by have := h.2.1; have := pgN_le l.length; omega
    refine ⟨true, put4 l at' at'.length, by rw [put4_len]; exact h2, fun A n cap w hz hc => (put_any l A n cap at' w hl hz hc).mono fun e w' hp => putU_of h hp, fun A n cap w hz => (refPut_any l A n cap at' w hl hz).mono fun e w' hp => putU_of h hp, fun _ A cap w hr => ?_⟩
    have hp := pgs_of_rp hr (by rw [put4_len]; omega)
    rw [put4_pg] at hp
    refine (get_any l.length A _ cap _ w hp).mono fun e w' hg => ?_
    rcases hg with ⟨⟨_, he⟩ | ⟨hno, _⟩, hb⟩
    · rw [show (putPg l at' at'.length).length = at'.length by simp [putPg], got_put_all h] at he
      exact ⟨he, hb⟩
    · exact absurd (getOk_put h) hno
  · exact ⟨false, [], by simp, fun A n cap w hz hc => (put_any l A n cap at' w hl hz hc).mono fun e w' hp => putU_no h hp, fun A n cap w hz => (refPut_any l A n cap at' w hl hz).mono fun e w' hp => putU_no h hp, fun h => by cases h⟩
theorem get_uni (z : Int) (L : List P4) (hL : L.length ≤ 1000) : ∃ (sv : ByteArray) (on : Bool),
    (∀ A cap w, Rp w A L → Calls Tryz.prog 9 #[.int .i64 z, .slice A L.length cap] w (GetU w sv on)) ∧
    (∀ A cap w, Rp w A L → Calls Tryz.prog 10 #[.int .i64 z, .slice A L.length cap] w (GetU w sv on)) := by
  by_cases h : GetOk z (L.map toPg)
  · have key : ∀ w e w', GetPost w z (L.map toPg) e w' → GetU w (str (got z (L.map toPg) (L.map toPg).length)) true e w' := fun w e w' hg => by
      rcases hg with ⟨⟨_, he⟩ | ⟨hno, _⟩, hb⟩
      · exact ⟨he, hb⟩
      · exact absurd h hno
    exact ⟨_, true, fun A cap w hr => (get_any z A _ cap _ w (pgs_of_rp hr hL)).mono fun e w' => key w e w', fun A cap w hr => (refGet_any z A _ cap _ w (pgs_of_rp hr hL)).mono fun e w' => key w e w'⟩
  · have key : ∀ w e w', GetPost w z (L.map toPg) e w' → GetU w ⟨#[]⟩ false e w' := fun w e w' hg => by
      rcases hg with ⟨⟨hok, _⟩ | ⟨_, he⟩, hb⟩
      · exact absurd hok h
      · exact ⟨he, hb⟩
    exact ⟨_, false, fun A cap w hr => (get_any z A _ cap _ w (pgs_of_rp hr hL)).mono fun e w' => key w e w', fun A cap w hr => (refGet_any z A _ cap _ w (pgs_of_rp hr hL)).mono fun e w' => key w e w'⟩
/-- A lent list as it is handed on. -/
theorem ints_lent {w : World} {B g n cap : Nat} {xs : List Int} (hr : w.ownsRow B 3 1 (.slice (some ⟨g, 0, none⟩) (n + 1) cap) (n + 1) (ints (xs ++ [-77]))) (hxl : xs.length = n) (hn : n ≤ 1000) : Ints w (some ⟨g, 0, none⟩) n xs :=
  ⟨hxl, by omega, fun _ => ⟨g, 0, rfl, own_lt hr g rfl, fun j hj => by
    rw [Nat.zero_add]
    refine own_at hr j _ ?_
    rw [show ints (xs ++ [-77]) = ints xs ++ ints [-77] by simp [ints], List.getElem?_append_left (by rw [ints_length]; omega)]
    simp [ints, List.getElem?_eq_getElem (show j < xs.length by omega), List.getD_eq_getElem?_getD]⟩⟩
theorem rp_lent {w : World} {B g n cap : Nat} {xs : List P4} (hr : w.ownsRow B 26 4 (.slice (some ⟨g, 0, none⟩) (n + 1) cap) (n + 1) (pages (xs ++ [mk77]))) (hxl : xs.length = n) (hn : n ≤ 1000) : Rp w (some ⟨g, 0, none⟩) xs :=
  ⟨by omega, fun _ => ⟨g, 0, rfl, own_lt hr g rfl, fun i p hp j hj => by
    rw [Nat.zero_add]
    have h7 : ∃ u, p.cells[j]? = some u := ⟨_, List.getElem?_eq_getElem (by simpa [P4.cells] using hj)⟩
    obtain ⟨u, hu⟩ := h7
    have hq : (xs ++ [mk77])[i]? = some p := by
      rw [List.getElem?_append_left (List.getElem?_eq_some_iff.1 hp).1]
      exact hp
    rw [hu]
    exact own_at hr _ u ((pages_at _ i j p hq hj).trans hu)⟩⟩
end Go.Proofs.YtghbgajapdkofaaGreatDoor.Bl
