/- What Take and Give do with a map, as contracts. -/
import Derived.Test.YtgafmbdledpblaaDoorSpaceRead
namespace Go.Proofs.YtgafmbdledpblaaDoor.Sp
open Go.RowKit Go.Proofs.YtgafmbdledpblaaDoor.Mem Go.Proofs.YtgafmbdledpblaaDoor.Pg

theorem Ops.below {w w1 : World} {A : Option Addr} {n : Nat} {K N : Nat → Int} (h : Ops w A n K N) (hb : Below w.heap.size w w1) : Ops w1 A n K N := fun h0 => by
  obtain ⟨b, off, hA, hlt, hc⟩ := h h0
  exact ⟨b, off, hA, Nat.lt_of_lt_of_le hlt hb.size, fun i hi => ⟨(hb.cell (p := ⟨b, off + i * 2, none⟩) hlt).trans (hc i hi).1, (hb.cell (p := ⟨b, off + i * 2 + 1, none⟩) hlt).trans (hc i hi).2⟩⟩

theorem take_map {n : Nat} {l : List UInt8} (h : IsMap n l) :
    (takeI 2 l < 0 ∧ (∀ i, i < n → bt l i = 1) ∧ ∀ w, Calls Tryd.prog 12 #[.agg #[.int .i64 2, .int .i64 0, .int .i64 0, .string (str l)]] w fun e w' =>
      e = .returned (.tuple #[.agg #[.int .i64 0, .int .i64 0, .int .i64 0, .string ⟨#[]⟩], .int .i64 0, .int .i64 6]) ∧ Below w.heap.size w w') ∨
    ∃ i : Nat, 2 ≤ i ∧ i < n ∧ bt l i = 2 ∧ (∀ j, j < i → bt l j = 1) ∧ IsMap n (l.set i 1) ∧ ∀ w, Calls Tryd.prog 12 #[.agg #[.int .i64 2, .int .i64 0, .int .i64 0, .string (str l)]] w fun e w' =>
      e = .returned (.tuple #[.agg #[.int .i64 2, .int .i64 0, .int .i64 0, .string (str (l.set i 1))], .int .i64 i, .int .i64 0]) ∧ Below w.heap.size w w' := by
  have hl := h.len
  have h8 := h.ge
  rcases takeI_map h with ⟨h1, h2⟩ | ⟨i, h1, h2, h3, h4, h5⟩
  · exact .inl ⟨by omega, h2, fun w => take_disk 2 0 0 l w (by omega) (by rw [pagesF_map h]; omega) (by omega)⟩
  · exact .inr ⟨i, h2, h3, h4, h5, h.set i 1 h2 h3 (.inl rfl), fun w => take_ok 2 0 0 l w (by omega) i h1 (by rw [pagesF_map h]; exact h3)⟩
theorem give_map {n : Nat} {l : List UInt8} (h : IsMap n l) (x : Int) :
    ((∀ i : Nat, x = i → 2 ≤ i → i < n → bt l i = 2) ∧ ∀ w, Calls Tryd.prog 14 #[.agg #[.int .i64 2, .int .i64 0, .int .i64 0, .string (str l)], .int .i64 x] w fun e w' =>
      e = .returned (.tuple #[.agg #[.int .i64 0, .int .i64 0, .int .i64 0, .string ⟨#[]⟩], .int .i64 1]) ∧ Below w.heap.size w w') ∨
    ∃ i : Nat, x = i ∧ 2 ≤ i ∧ i < n ∧ bt l i = 1 ∧ IsMap n (l.set i 2) ∧ ∀ w, Calls Tryd.prog 14 #[.agg #[.int .i64 2, .int .i64 0, .int .i64 0, .string (str l)], .int .i64 x] w fun e w' =>
      e = .returned (.tuple #[.agg #[.int .i64 2, .int .i64 0, .int .i64 0, .string (str (l.set i 2))], .int .i64 0]) ∧ Below w.heap.size w w' := by
  have hl := h.len
  have h8 := h.ge
  by_cases hu : 2 ≤ x ∧ usedF 2 l x = true
  · obtain ⟨i, rfl⟩ : ∃ i : Nat, x = i := ⟨x.toNat, by omega⟩
    have h1 := (usedF_map h i).1 hu.2
    rw [Int.toNat_natCast] at h1
    exact .inr ⟨i, rfl, by omega, by omega, h1.2.2, h.set i 2 (by omega) (by omega) (.inr rfl), fun w => give_ok 2 0 0 i l w (by omega) (by omega) hu.2⟩
  · have hu' : x < 2 ∨ usedF 2 l x = false := by
      rcases Int.lt_or_le x 2 with h1 | h1
      · exact .inl h1
      · right
        rcases h2 : usedF 2 l x with _ | _
        · rfl
        · exact absurd ⟨h1, h2⟩ hu
    refine .inl ⟨?_, fun w => give_arg 2 0 0 x l w (by omega) (by rw [pagesF_map h]; omega) hu'⟩
    rintro i rfl h2 hi
    rcases h.ok i hi with h3 | h3
    · have : usedF 2 l i = true := (usedF_map h i).2 ⟨by omega, by omega, by rw [Int.toNat_natCast]; exact h3⟩
      rcases hu' with h4 | h4
      · omega
      · rw [h4] at this; exact absurd this (by decide)
    · exact h3
/-- How many of the pages below k are used. -/
def cnt (n : Nat) (l : List UInt8) (k : Nat) : Nat := ((l.take n).take k).count 1
theorem cnt_step {n : Nat} {l : List UInt8} (h : IsMap n l) (k : Nat) : cnt n l (k + 1) = cnt n l k + if usedF 2 l k = true then 1 else 0 := by
  unfold cnt
  have hl : (l.take n).length = n := by rw [List.length_take]; have := h.len; have := h.le; omega
  rcases Nat.lt_or_ge k n with hk | hk
  · have hk' : k < (l.take n).length := by omega
    rw [List.take_succ_eq_append_getElem hk', List.count_append]
    congr 1
    have hb := bt_take l n k hk
    rcases h.ok k hk with h1 | h1
    · rw [h1] at hb
      rw [(bt_eq _ k hk' 1).1 hb, if_pos ((usedF_map h k).2 ⟨by omega, by omega, by rw [Int.toNat_natCast]; exact h1⟩)]
      rfl
    · rw [h1] at hb
      rw [(bt_eq _ k hk' 2).1 hb, usedF_map_false h k (by rw [h1]; decide)]
      rfl
  · rw [List.take_of_length_le (l := l.take n) (i := k + 1) (by omega), List.take_of_length_le (l := l.take n) (i := k) (by omega), usedF_map_false h k (by rw [h.past k hk]; decide)]
    rfl
theorem cnt_le (n : Nat) (l : List UInt8) (k : Nat) : cnt n l k ≤ n := by
  unfold cnt
  have h1 := List.count_le_length (a := (1 : UInt8)) (l := (l.take n).take k)
  have h2 : ((l.take n).take k).length ≤ n := by rw [List.length_take, List.length_take]; omega
  omega
theorem cnt_all {n : Nat} {l : List UInt8} (h : IsMap n l) : cnt n l (n + 1) + (l.take n).count 2 = n := by
  unfold cnt
  have hl : (l.take n).length = n := by rw [List.length_take]; have := h.len; have := h.le; omega
  rw [List.take_of_length_le (l := l.take n) (i := n + 1) (by omega)]
  have key : ∀ m : List UInt8, (∀ c ∈ m, c = 1 ∨ c = 2) → m.count 1 + m.count 2 = m.length := by
    intro m
    induction m with
    | nil => intro _; rfl
    | cons c m ih =>
      intro hc
      have := ih (fun x hx => hc x (List.mem_cons_of_mem _ hx))
      rcases hc c List.mem_cons_self with rfl | rfl
      · simp; omega
      · simp; omega
  rw [key, hl]
  intro c hc
  obtain ⟨i, hi, rfl⟩ := List.getElem_of_mem hc
  have hb := bt_take l n i (by omega)
  rcases h.ok i (by omega) with h1 | h1
  · left; rw [h1] at hb; exact (bt_eq _ i hi 1).1 hb
  · right; rw [h1] at hb; exact (bt_eq _ i hi 2).1 hb
end Go.Proofs.YtgafmbdledpblaaDoor.Sp
