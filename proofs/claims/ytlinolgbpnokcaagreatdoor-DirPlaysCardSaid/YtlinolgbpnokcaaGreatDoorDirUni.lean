/- What the directory page, whatever it is, is read as: Entries, All, Depth, At under one form each. -/
import Derived.Test.YtlinolgbpnokcaaGreatDoorDirRefEntries
import Derived.Test.YtlinolgbpnokcaaGreatDoorDirRefOf
import Derived.Test.YtlinolgbpnokcaaGreatDoorDirGood
import Derived.Test.YtlinolgbpnokcaaGreatDoorBookApart
import Derived.Test.YtlinolgbpnokcaaGreatDoorBookAdd
namespace Go.Proofs.YtlinolgbpnokcaaGreatDoor.Dr
open Go.RowKit Go.Proofs.YtlinolgbpnokcaaGreatDoor.Mem Go.Proofs.YtlinolgbpnokcaaGreatDoor.Pg Go.Proofs.YtlinolgbpnokcaaGreatDoor.Bk

/-- A page's four values. -/
abbrev pgv (k d x : Int) (s : ByteArray) : Value := .agg #[.int .i64 k, .int .i64 d, .int .i64 x, .string s]
abbrev pgo (k d x : Int) (s : ByteArray) : Obj := .cells #[.int .i64 k, .int .i64 d, .int .i64 x, .string s] 23 (0, 0)
/-- Its entries, if it is a directory. -/
noncomputable def entsOf (k d : Int) (l : List UInt8) : Option (List Int) := open Classical in if h : ∃ n, IsDir k d l n then some (ents l h.choose) else none
theorem entsOf_yes {k d : Int} {l : List UInt8} {n : Nat} (h : IsDir k d l n) : entsOf k d l = some (ents l n) := by
  unfold entsOf
  have h2 : ∃ n, IsDir k d l n := ⟨n, h⟩
  rw [dif_pos h2, isDir_same h2.choose_spec h]
theorem entsOf_no {k d : Int} {l : List UInt8} (h : ∀ n, ¬ IsDir k d l n) : entsOf k d l = none := dif_neg (fun ⟨n, hn⟩ => h n hn)
/-- What is told at a place. -/
def atN (xs : List Int) (b : Int) : Int := if 0 ≤ b ∧ b < xs.length then xs.getD b.toNat 0 else 0
structure Seen (k d x : Int) (l : List UInt8) (good : Bool) (xs : List Int) : Prop where
  len : xs.length ≤ 32
  dir : good = true → IsDir k d l xs.length ∧ xs = ents l xs.length
  no : good = false → (∀ n, ¬ IsDir k d l n) ∧ xs = []
  entries : ∀ w, Calls Tryz.prog 7 #[pgv k d x (str l)] w fun e w' => ∃ v, e = .returned (.tuple #[v, .bool good]) ∧ (good = true → w'.ownsRow w.heap.size 3 1 v xs.length (ints xs)) ∧ (∃ A n c, v = .slice A n c) ∧ Below w.heap.size w w'
  all : ∀ w, Calls Tryz.prog 12 #[pgv k d x (str l)] w fun e w' => ∃ v, e = .returned v ∧ w'.ownsRow w.heap.size 3 1 v xs.length (ints xs) ∧ Below w.heap.size w w'
  depth : ∀ w, Calls Tryz.prog 15 #[pgv k d x (str l)] w fun e w' => e = .returned (.int .i64 (if good = true then d else -1)) ∧ Below w.heap.size w w'
  at_ : ∀ b w, Calls Tryz.prog 14 #[pgv k d x (str l), .int .i64 b] w fun e w' => e = .returned (.tuple #[.int .i64 (atN xs b), .bool (decide (0 ≤ b ∧ b < xs.length))]) ∧ Below w.heap.size w w'

theorem seen_any (k d x : Int) (l : List UInt8) : ∃ good xs, Seen k d x l good xs := by
  by_cases h : ∃ n, IsDir k d l n
  · obtain ⟨n, h⟩ := h
    have hl := ents_len l n
    have hle := h.le
    refine ⟨true, ents l n, ⟨by omega, fun _ => ⟨by rw [hl]; exact h, by rw [hl]⟩, (fun h => by cases h), fun w => ?_, fun w => ?_, fun w => ?_, fun b w => ?_⟩⟩
    · refine (refEntries_any k d x l w).mono ?_
      rintro e w' ⟨⟨m, v, hd, rfl, ho⟩ | ⟨hno, _⟩, hb⟩
      · obtain rfl := isDir_same hd h
        obtain ⟨A, c, rfl⟩ := own_slice ho
        exact ⟨_, rfl, fun _ => by rw [hl]; exact ho, ⟨_, _, _, rfl⟩, hb⟩
      · exact absurd h (hno _)
    · refine (all_any k d x l w).mono ?_
      rintro e w' (⟨m, g, cap, hd, rfl, ho, _, _, hb⟩ | ⟨hno, _⟩)
      · obtain rfl := isDir_same hd h
        exact ⟨_, rfl, by rw [hl]; exact ho, hb⟩
      · exact absurd h (hno _)
    · refine (depth_any k d x l w).mono ?_
      rintro e w' ⟨⟨_, rfl⟩ | ⟨hno, _⟩, hb⟩
      · exact ⟨rfl, hb⟩
      · exact absurd h (hno _)
    · refine (at_any k d x l b w).mono ?_
      rintro e w' ⟨⟨m, i, hd, rfl, hi, rfl⟩ | ⟨hno, rfl⟩, hb⟩
      · obtain rfl := isDir_same hd h
        have h1 : (0 : Int) ≤ (i : Int) ∧ (i : Int) < ((ents l m).length : Int) := by omega
        refine ⟨?_, hb⟩
        rw [atN, if_pos h1, decide_eq_true h1, Int.toNat_natCast, List.getD_eq_getElem?_getD, ents, List.getElem?_map, List.getElem?_range hi]
        rfl
      · have h1 : ¬ ((0 : Int) ≤ b ∧ b < ((ents l n).length : Int)) := by have := hno n h; omega
        exact ⟨by rw [atN, if_neg h1, decide_eq_false h1], hb⟩
  · have h : ∀ n, ¬ IsDir k d l n := fun n hn => h ⟨n, hn⟩
    refine ⟨false, [], ⟨by simp, (fun h => by cases h), fun _ => ⟨h, rfl⟩, fun w => ?_, fun w => ?_, fun w => ?_, fun b w => ?_⟩⟩
    · refine (refEntries_any k d x l w).mono ?_
      rintro e w' ⟨⟨m, v, hd, _⟩ | ⟨_, A, m, c, rfl⟩, hb⟩
      · exact absurd hd (h m)
      · exact ⟨_, rfl, (fun h => by cases h), ⟨_, _, _, rfl⟩, hb⟩
    · refine (all_any k d x l w).mono ?_
      rintro e w' (⟨m, g, cap, hd, _⟩ | ⟨_, rfl, hb⟩)
      · exact absurd hd (h m)
      · exact ⟨_, rfl, World.ownsRow_nil _ _ _ _, hb⟩
    · refine (depth_any k d x l w).mono ?_
      rintro e w' ⟨⟨⟨m, hd⟩, _⟩ | ⟨_, rfl⟩, hb⟩
      · exact absurd hd (h m)
      · exact ⟨rfl, hb⟩
    · refine (at_any k d x l b w).mono ?_
      rintro e w' ⟨⟨m, i, hd, _⟩ | ⟨_, rfl⟩, hb⟩
      · exact absurd hd (h m)
      · have h1 : ¬ ((0 : Int) ≤ b ∧ b < (([] : List Int).length : Int)) := by simp
        exact ⟨by rw [atN, if_neg h1, decide_eq_false h1], hb⟩

end Go.Proofs.YtlinolgbpnokcaaGreatDoor.Dr
namespace Go.Proofs.YtlinolgbpnokcaaGreatDoor.Bk
open Go.RowKit Go.Proofs.YtlinolgbpnokcaaGreatDoor.Mem
/-- The book where a store hits a block that is none of its own. -/
theorem Book.other {B pb n g : Nat} {w : World} {o : Nat → Nat} {V U : Nat → Value} {X : Nat → List Int} {vI vW : Value} (h : Book B pb n w o V U X vI vW) (hn : n ≤ 250) (ho : o g = 1000) (j : Nat) (u : Value) : Book B pb n (w.setCell ⟨g, j, none⟩ u) o V U X vI vW := by
  have tg : ∀ {v : Value} {t : Nat}, Tag o v t → t < 1000 → some g ≠ v.ownBlock := fun ht hlt e => by
    have := ht g e.symm
    omega
  have hp : pb ≠ g := fun e => by
    have := h.tp
    rw [e, ho] at this
    omega
  have rw' : ∀ {e : TypeId} {size m : Nat} {v : Value} {ys : List Value} {t : Nat}, w.ownsRow B e size v m ys → Tag o v t → t < 1000 → (w.setCell ⟨g, j, none⟩ u).ownsRow B e size v m ys := fun hr ht hlt =>
    row_same hr fun k hk => heap_setCell_other _ _ _ _ (fun e => by subst e; exact tg ht hlt hk.symm)
  exact ⟨h.hB, by rw [heap_setCell_other _ _ _ _ hp]; exact h.blk, rw' h.rI h.tI (by omega), rw' h.rW h.tW (by omega), fun i hi => rw' (h.rv i hi) (h.tv i hi) (by omega), fun i hi => rw' (h.ru i hi) (h.tu i hi) (by omega), h.tp, h.tI, h.tW, h.tv, h.tu⟩
theorem Book.other4 {B pb n g : Nat} {w : World} {o : Nat → Nat} {V U : Nat → Value} {X : Nat → List Int} {vI vW : Value} (h : Book B pb n w o V U X vI vW) (hn : n ≤ 250) (ho : o g = 1000) (a b c d : Value) : Book B pb n (set4 w g a b c d) o V U X vI vW :=
  (((h.other hn ho 0 a).other hn ho 1 b).other hn ho 2 c).other hn ho 3 d
theorem Book.retag {B pb n : Nat} {w : World} {o o' : Nat → Nat} {V U : Nat → Value} {X : Nat → List Int} {vI vW : Value} (h : Book B pb n w o V U X vI vW) (ho : ∀ k, k < w.heap.size → o' k = o k) : Book B pb n w o' V U X vI vW :=
  have tg : ∀ {v : Value} {t : Nat}, Tag o v t → (∀ g, v.ownBlock = some g → g < w.heap.size) → Tag o' v t := fun ht hl g hg => (ho g (hl g hg)).trans (ht g hg)
  ⟨h.hB, h.blk, h.rI, h.rW, h.rv, h.ru, (ho pb (lt_of_block h.blk)).trans h.tp, tg h.tI (row_lt h.rI), tg h.tW (row_lt h.rW), fun i hi => tg (h.tv i hi) (row_lt (h.rv i hi)), fun i hi => tg (h.tu i hi) (row_lt (h.ru i hi))⟩
theorem Book.new {B pb : Nat} {w : World} {o : Nat → Nat} (hB : B ≤ pb) (h : w.heap[pb]? = some (.cells (bcs nl nl) 41 (0, 0))) (ho : o pb = 0) : Book B pb 0 w o (fun _ => nl) (fun _ => nl) (fun _ => []) nl nl :=
  ⟨hB, h, World.ownsRow_nil _ _ _ _, World.ownsRow_nil _ _ _ _, fun i hi => absurd hi (by omega), fun i hi => absurd hi (by omega), ho, tag_nil _ _, tag_nil _ _, fun i hi => absurd hi (by omega), fun i hi => absurd hi (by omega)⟩
end Go.Proofs.YtlinolgbpnokcaaGreatDoor.Bk
