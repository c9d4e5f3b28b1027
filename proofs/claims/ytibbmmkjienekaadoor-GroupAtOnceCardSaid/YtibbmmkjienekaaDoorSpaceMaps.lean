/- Plain mathematics of chapter 9: what a map is, byte by byte. No program in sight. -/
import Derived.Test.YtibbmmkjienekaaDoorSpaceNew
namespace Go.Proofs.YtibbmmkjienekaaDoor.Sp
open Go.RowKit Go.Proofs.YtibbmmkjienekaaDoor.Mem Go.Proofs.YtibbmmkjienekaaDoor.Pg

theorem bt_past (l : List UInt8) (i : Nat) (h : l.length ≤ i) : bt l i = 0 := by
  unfold bt
  rw [List.getD_eq_getElem?_getD, List.getElem?_eq_none h]
  rfl
theorem bt_get (l : List UInt8) (i : Nat) (h : i < l.length) : bt l i = (l[i].toNat : Int) := (bt_eq l i h l[i]).2 rfl
theorem bt_set (l : List UInt8) (i : Nat) (b : UInt8) (h : i < l.length) (j : Nat) : bt (l.set i b) j = if i = j then (b.toNat : Int) else bt l j := by
  unfold bt
  rw [List.getD_eq_getElem?_getD, List.getD_eq_getElem?_getD, List.getElem?_set]
  split
  · subst_vars; simp
  · rfl
theorem bt_ext {l m : List UInt8} (h : l.length = m.length) (hb : ∀ i, bt l i = bt m i) : l = m := by
  apply List.ext_getElem h
  intro i h1 h2
  have := hb i
  rw [bt_get l i h1, bt_get m i h2] at this
  exact UInt8.toNat_inj.1 (by omega)
theorem bt_take (l : List UInt8) (n i : Nat) (h : i < n) : bt (l.take n) i = bt l i := by
  unfold bt
  rw [List.getD_eq_getElem?_getD, List.getD_eq_getElem?_getD, List.getElem?_take_of_lt h]
theorem bt_append_left (a b : List UInt8) (i : Nat) (h : i < a.length) : bt (a ++ b) i = bt a i := by
  unfold bt
  rw [List.getD_eq_getElem?_getD, List.getD_eq_getElem?_getD, List.getElem?_append_left h]

/-- A map of n pages. -/
structure IsMap (n : Nat) (l : List UInt8) : Prop where
  len : l.length = 240
  ge : 8 ≤ n
  le : n ≤ 64
  ok : ∀ i, i < n → bt l i = 1 ∨ bt l i = 2
  past : ∀ i, n ≤ i → bt l i = 0
  b0 : bt l 0 = 1
  b1 : bt l 1 = 1

theorem trim_parts (l : List UInt8) : ∃ z, l = Lib.trimRightB l 0 ++ z ∧ ∀ c ∈ z, c = 0 := by
  refine ⟨(l.reverse.takeWhile (· == 0)).reverse, ?_, ?_⟩
  · unfold Lib.trimRightB
    rw [← List.reverse_append, List.takeWhile_append_dropWhile, List.reverse_reverse]
  · intro c hc
    rw [List.mem_reverse] at hc
    have := List.all_takeWhile (p := (· == (0 : UInt8))) (l := l.reverse)
    rw [List.all_eq_true] at this
    simpa using this c hc

theorem pagesF_map {n : Nat} {l : List UInt8} (h : IsMap n l) : pagesF 2 l = n := by
  have ht : Lib.trimRightB l 0 = l.take n := by
    apply Lib.trimRightB_take l 0 n (by have := h.len; have := h.le; omega)
    · intro j b hj hb
      have h0 := h.past j hj
      obtain ⟨hl, rfl⟩ := List.getElem?_eq_some_iff.1 hb
      rw [bt_get l j hl] at h0
      exact UInt8.toNat_inj.1 (by simpa using h0)
    · intro b hn hb hb0
      obtain ⟨hl, rfl⟩ := List.getElem?_eq_some_iff.1 hb
      have h1 := h.ok (n - 1) (by omega)
      rw [bt_get l _ hl, hb0] at h1
      simp at h1
  have hlen : (l.take n).length = n := by rw [List.length_take]; have := h.len; have := h.le; omega
  have hg := h.ge
  unfold pagesF
  rw [if_pos ⟨rfl, h.len⟩, ht, hlen, if_pos]
  refine ⟨h.ge, h.le, ?_, ?_, ?_⟩
  · rw [bt_take l n 0 (by omega)]; exact h.b0
  · rw [bt_take l n 1 (by omega)]; exact h.b1
  · rw [← okTo_all, hlen]
    intro j hj
    rw [bt_take l n j hj]
    exact h.ok j hj
theorem map_pagesF {k : Int} {l : List UInt8} (h : pagesF k l ≠ 0) : k = 2 ∧ IsMap (pagesF k l) l := by
  unfold pagesF at h ⊢
  split at h
  · rename_i h1
    split at h
    · rename_i h2
      rw [if_pos h1, if_pos h2]
      obtain ⟨z, hz, hc⟩ := trim_parts l
      generalize Lib.trimRightB l 0 = t at *
      obtain ⟨a, b, c, d, e⟩ := h2
      have hbt : ∀ i, i < t.length → bt l i = bt t i := fun i hi => by rw [hz]; exact bt_append_left t z i hi
      refine ⟨h1.1, h1.2, a, b, ?_, ?_, ?_, ?_⟩
      · intro i hi
        rw [hbt i hi]
        exact (okTo_all t).2 e i hi
      · intro i hi
        rcases Nat.lt_or_ge i l.length with hl | hl
        · rw [bt_get l i hl]
          have : l[i] ∈ z := by
            have h3 : l[i] = (t ++ z)[i]'(by rw [← hz]; exact hl) := by congr 1
            rw [h3, List.getElem_append_right hi]
            exact List.getElem_mem _
          rw [hc _ this]
          rfl
        · exact bt_past l i hl
      · rw [hbt 0 (by omega)]; exact c
      · rw [hbt 1 (by omega)]; exact d
    · exact absurd rfl h
  · exact absurd rfl h
theorem IsMap.set {n : Nat} {l : List UInt8} (h : IsMap n l) (i : Nat) (b : UInt8) (h2 : 2 ≤ i) (hi : i < n) (hb : b = 1 ∨ b = 2) : IsMap n (l.set i b) := by
  have hl := h.len
  have hle := h.le
  have hbt := bt_set l i b (by omega)
  refine ⟨by rw [List.length_set]; exact hl, h.ge, hle, ?_, ?_, ?_, ?_⟩
  · intro j hj
    rw [hbt]
    split
    · rcases hb with rfl | rfl
      · left; rfl
      · right; rfl
    · exact h.ok j hj
  · intro j hj
    rw [hbt, if_neg (by omega)]
    exact h.past j hj
  · rw [hbt, if_neg (by omega)]; exact h.b0
  · rw [hbt, if_neg (by omega)]; exact h.b1

theorem bt_newL (n : Nat) (hn : n ≤ 240) (i : Nat) : bt (newL n) i = if i < n then (if i < 2 then 1 else 2) else 0 := by
  induction n with
  | zero =>
    rw [if_neg (by omega)]
    unfold bt
    rw [newL, zs, List.getD_eq_getElem?_getD, List.getElem?_replicate]
    split <;> rfl
  | succ n ih =>
    have hl := newL_len n
    have ih := ih (by omega)
    rw [newL]
    split
    · rw [bt_set _ n 1 (by rw [List.length_set, hl]; omega), bt_set _ n 2 (by rw [hl]; omega), ih]
      split
      · rw [if_pos (by omega), if_pos (by omega)]; rfl
      · by_cases h : i < n
        · rw [if_pos h, if_pos (show i < n + 1 by omega)]
        · rw [if_neg h, if_neg (show ¬ i < n + 1 by omega)]
    · rw [bt_set _ n 2 (by rw [hl]; omega), ih]
      split
      · rw [if_pos (by omega), if_neg (by omega)]; rfl
      · by_cases h : i < n
        · rw [if_pos h, if_pos (show i < n + 1 by omega)]
        · rw [if_neg h, if_neg (show ¬ i < n + 1 by omega)]
theorem isMap_new (n : Nat) (h8 : 8 ≤ n) (h64 : n ≤ 64) : IsMap n (newL n) := by
  have hb := bt_newL n (by omega)
  refine ⟨newL_len n, h8, h64, ?_, ?_, ?_, ?_⟩
  · intro i hi
    rw [hb, if_pos hi]
    split
    · left; rfl
    · right; rfl
  · intro i hi
    rw [hb, if_neg (by omega)]
  · rw [hb, if_pos (by omega), if_pos (by omega)]
  · rw [hb, if_pos (by omega), if_pos (by omega)]

theorem usedF_map {n : Nat} {l : List UInt8} (h : IsMap n l) (i : Int) : usedF 2 l i = true ↔ 0 ≤ i ∧ i < (n : Int) ∧ bt l i.toNat = 1 := by
  rw [usedF_iff, pagesF_map h]
theorem usedF_map_false {n : Nat} {l : List UInt8} (h : IsMap n l) (i : Nat) (hi : bt l i ≠ 1) : usedF 2 l i = false := by
  rcases hu : usedF 2 l i with _ | _
  · rfl
  · have := ((usedF_map h i).1 hu).2.2
    rw [Int.toNat_natCast] at this
    exact absurd this hi

theorem idx_spec (l : List UInt8) (c : UInt8) : (Lib.indexByte l c = -1 ∧ ∀ j : Nat, l[j]? ≠ some c) ∨ ∃ i : Nat, Lib.indexByte l c = i ∧ i < l.length ∧ l[i]? = some c ∧ ∀ j : Nat, j < i → l[j]? ≠ some c := by
  induction l with
  | nil => left; exact ⟨rfl, by simp⟩
  | cons b l ih =>
    unfold Lib.indexByte
    by_cases hb : b = c
    · right
      refine ⟨0, ?_, by simp, by simp [hb], fun j hj => absurd hj (by omega)⟩
      simp [hb]
    · have hb' : (b == c) = false := by simpa using hb
      rcases ih with ⟨h1, h2⟩ | ⟨i, h1, h2, h3, h4⟩
      · left
        rw [h1]
        refine ⟨by simp [hb'], fun j => ?_⟩
        cases j with
        | zero => simpa using hb
        | succ j => simpa using h2 j
      · right
        rw [h1]
        refine ⟨i + 1, ?_, by simpa using h2, by simpa using h3, fun j hj => ?_⟩
        · have : ((i : Int) == -1) = false := by simp
          simp [hb', this]
        · cases j with
          | zero => simpa using hb
          | succ j => simpa using h4 j (by omega)
/-- Take's least free page. -/
theorem takeI_map {n : Nat} {l : List UInt8} (h : IsMap n l) :
    (takeI 2 l = -1 ∧ ∀ i, i < n → bt l i = 1) ∨ ∃ i : Nat, takeI 2 l = i ∧ 2 ≤ i ∧ i < n ∧ bt l i = 2 ∧ ∀ j, j < i → bt l j = 1 := by
  unfold takeI
  rw [pagesF_map h]
  have hlen : (l.take n).length = n := by rw [List.length_take]; have := h.len; have := h.le; omega
  have key : ∀ j, j < n → ((l.take n)[j]? = some 2 ↔ bt l j = 2) := fun j hj => by
    have hl : j < (l.take n).length := by omega
    rw [← bt_take l n j hj]
    rw [List.getElem?_eq_getElem hl, Option.some.injEq]
    exact (bt_eq _ j hl 2).symm
  rcases idx_spec (l.take n) 2 with ⟨h1, h2⟩ | ⟨i, h1, h2, h3, h4⟩
  · left
    refine ⟨h1, fun i hi => ?_⟩
    rcases h.ok i hi with h5 | h5
    · exact h5
    · exact absurd ((key i hi).2 h5) (h2 i)
  · right
    rw [hlen] at h2
    have h5 := (key i h2).1 h3
    refine ⟨i, h1, ?_, h2, h5, fun j hj => ?_⟩
    · rcases Nat.lt_or_ge i 2 with h6 | h6
      · match i, h6 with
        | 0, _ => rw [h.b0] at h5; simp at h5
        | 1, _ => rw [h.b1] at h5; simp at h5
      · exact h6
    · rcases h.ok j (by omega) with h6 | h6
      · exact h6
      · exact absurd ((key j (by omega)).2 h6) (h4 j hj)
theorem set_back {l : List UInt8} {i : Nat} (hi : i < l.length) (hb : bt l i = 2) : (l.set i 1).set i 2 = l := by
  rw [List.set_set, ← (bt_eq l i hi 2).1 hb, List.set_getElem_self]
end Go.Proofs.YtibbmmkjienekaaDoor.Sp
