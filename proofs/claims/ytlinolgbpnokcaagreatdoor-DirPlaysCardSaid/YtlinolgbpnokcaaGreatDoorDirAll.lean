/- The contracts of dir's All, Depth, At. -/
import Derived.Test.YtlinolgbpnokcaaGreatDoorDirPage
namespace Go.Proofs.YtlinolgbpnokcaaGreatDoor.Dr
open Go.RowKit Go.Proofs.YtlinolgbpnokcaaGreatDoor.Mem Go.Proofs.YtlinolgbpnokcaaGreatDoor.Pg

def AllPost (w : World) (k d : Int) (l : List UInt8) (e : Ending) (w' : World) : Prop :=
  (∃ n g cap, IsDir k d l n ∧ e = .returned (.slice (some ⟨g, 0, none⟩) n cap) ∧ w'.ownsRow w.heap.size 3 1 (.slice (some ⟨g, 0, none⟩) n cap) n (ints (ents l n)) ∧ g < w'.heap.size ∧ w.heap.size ≤ g ∧ Below w.heap.size w w') ∨
  ((∀ n, ¬ IsDir k d l n) ∧ e = .returned (.slice none 0 0) ∧ Below w.heap.size w w')
theorem al_le (w : World) (o : Obj) : w.heap.size ≤ (w.alloc o).heap.size := by simp
theorem below_box {w w1 : World} {o : Obj} (hb : Below (w.alloc o).heap.size (w.alloc o) w1) : Below w.heap.size w w1 := below_base (below_al (Below.refl _ w) o) (al_le w o) hb

set_option maxRecDepth 100000 in
set_option maxHeartbeats 2000000 in
theorem all_any (k d x : Int) (l : List UInt8) (w : World) :
    Calls Tryz.prog 12 #[.agg #[.int .i64 k, .int .i64 d, .int .i64 x, .string (str l)]] w (AllPost w k d l) := by
  have hof := fun w => of_any k d x l w
  generalize str l = S at *
  go_enter Tryz.func12, Tryz.ntmps12
  go_wp2_with fail
  with_reducible refine (hof _).mono ?_
  clear hof
  rintro e w1 (⟨n, g, cap, hd, rfl, hown, hgl, hgb, hb⟩ | ⟨hno, rfl, hb⟩)
  · go_wp2
    go_ret
    exact .inl ⟨n, g, cap, hd, rfl, own_weaken (hown.alloc _) (al_le _ _), lt_al hgl _, Nat.le_trans (al_le _ _) hgb, below_al (below_box hb) _⟩
  · have Hno := Lib.hid hno
    clear hno
    go_wp2
    go_ret
    exact .inr ⟨Hno.out, rfl, below_al (below_box hb) _⟩

set_option maxRecDepth 100000 in
set_option maxHeartbeats 2000000 in
theorem depth_any (k d x : Int) (l : List UInt8) (w : World) :
    Calls Tryz.prog 15 #[.agg #[.int .i64 k, .int .i64 d, .int .i64 x, .string (str l)]] w fun e w' =>
      ((∃ n, IsDir k d l n) ∧ e = .returned (.int .i64 d) ∨ (∀ n, ¬ IsDir k d l n) ∧ e = .returned (.int .i64 (-1))) ∧ Below w.heap.size w w' := by
  have hof := fun w => of_any k d x l w
  generalize hS : str l = S at *
  clear hS
  go_enter Tryz.func15, Tryz.ntmps15
  go_wp2_with fail
  with_reducible refine (hof _).mono ?_
  clear hof
  rintro e w1 (⟨n, g, cap, hd, rfl, hown, hgl, hgb, hb⟩ | ⟨hno, rfl, hb⟩)
  · have Hd := Lib.hid hd
    have hcb := blk_cell (blk_below hb)
    have hlb := lt_of_block (blk_below hb)
    clear hd hown
    go_wp2
    go_ret
    exact ⟨.inl ⟨⟨n, Hd.out⟩, rfl⟩, below_al (below_box hb) _⟩
  · have Hno := Lib.hid hno
    clear hno
    go_wp2
    go_ret
    exact ⟨.inr ⟨Hno.out, rfl⟩, below_al (below_box hb) _⟩

def AtPost (w : World) (k d : Int) (l : List UInt8) (bits : Int) (e : Ending) (w' : World) : Prop :=
  ((∃ n i : Nat, IsDir k d l n ∧ bits = i ∧ i < n ∧ e = .returned (.tuple #[.int .i64 (ent l i), .bool true])) ∨ ((∀ n, IsDir k d l n → bits < 0 ∨ n ≤ bits) ∧ e = .returned (.tuple #[.int .i64 0, .bool false]))) ∧ Below w.heap.size w w'
theorem isDir_same {k d : Int} {l : List UInt8} {n m : Nat} (h : IsDir k d l n) (h' : IsDir k d l m) : n = m := h.size.trans h'.size.symm

set_option maxRecDepth 100000 in
set_option maxHeartbeats 2000000 in
theorem at_any (k d x : Int) (l : List UInt8) (bits : Int) (w : World) :
    Calls Tryz.prog 14 #[.agg #[.int .i64 k, .int .i64 d, .int .i64 x, .string (str l)], .int .i64 bits] w (AtPost w k d l bits) := by
  have hof := fun w => all_any k d x l w
  generalize str l = S at *
  go_enter Tryz.func14, Tryz.ntmps14
  go_wp2_with fail
  with_reducible refine (hof _).mono ?_
  clear hof
  rintro e w1 (⟨n, g, cap, hd, rfl, hown, hgl, hgb, hb⟩ | ⟨hno, rfl, hb⟩)
  · by_cases h1 : bits < 0
    · have hpost : Hid (∀ m, IsDir k d l m → bits < 0 ∨ m ≤ bits) := fun m _ => .inl h1
      clear hd hown
      go_wp2
      go_ret2
      exact ⟨.inr ⟨hpost.out, rfl⟩, below_box hb⟩
    · obtain ⟨i, rfl⟩ := Int.eq_ofNat_of_zero_le (show 0 ≤ bits from by omega)
      by_cases h2 : i < n
      · have hce := own_at hown i (.int .i64 (ent l i)) (by simp [ints, ents, h2])
        have Hd := Lib.hid hd
        obtain ⟨X, hX⟩ : ∃ X, X = ent l i := ⟨_, rfl⟩
        rw [← hX] at hce
        have HX := Lib.hid hX
        clear hd hown hX
        go_wp2
        go_ret2
        exact ⟨.inl ⟨n, i, Hd.out, rfl, h2, by rw [← HX.out]; rfl⟩, below_box hb⟩
      · have hpost : Hid (∀ m, IsDir k d l m → (i : Int) < 0 ∨ (m : Int) ≤ i) := fun m hm => by have := isDir_same hd hm; omega
        clear hd hown
        go_wp2
        go_ret2
        exact ⟨.inr ⟨hpost.out, rfl⟩, below_box hb⟩
  · have hpost : Hid (∀ m, IsDir k d l m → bits < 0 ∨ m ≤ bits) := fun m hm => absurd hm (hno m)
    clear hno
    go_wp2
    all_goals go_ret2
    all_goals exact ⟨.inr ⟨hpost.out, rfl⟩, below_box hb⟩
end Go.Proofs.YtlinolgbpnokcaaGreatDoor.Dr
