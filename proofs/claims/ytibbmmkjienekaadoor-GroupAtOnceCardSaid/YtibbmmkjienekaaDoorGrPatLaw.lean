/- What patches make of a page. No program in sight. -/
import Derived.Test.YtibbmmkjienekaaDoorGrPatchesC
import Derived.Test.YtibbmmkjienekaaDoorPatAll
import Derived.Test.YtibbmmkjienekaaDoorGrAny
namespace Go.Proofs.YtibbmmkjienekaaDoor.Gr
open Go.RowKit Go.Proofs.YtibbmmkjienekaaDoor.Mem Go.Proofs.YtibbmmkjienekaaDoor.Pg Go.Proofs.YtibbmmkjienekaaDoor.Kp Go.Proofs.YtibbmmkjienekaaDoor.Sp
set_option linter.unusedVariables false

theorem last_diff {o b : List UInt8} : ∀ m, (∃ j, j < m ∧ bt o j ≠ bt b j) → ∃ t, t < m ∧ bt o t ≠ bt b t ∧ ∀ j, t < j → j < m → bt o j = bt b j := by
  intro m
  induction m with
  | zero => rintro ⟨j, hj, _⟩; omega
  | succ m ih =>
    rintro ⟨j, hj, hne⟩
    rcases Classical.em (bt o m = bt b m) with e | e
    · have hjm : j < m := by
        rcases Nat.lt_or_ge j m with h | h
        · exact h
        · obtain rfl : j = m := by omega
          exact absurd e hne
      obtain ⟨t, h1, h2, h3⟩ := ih ⟨j, hjm, hne⟩
      refine ⟨t, by omega, h2, fun i hi him => ?_⟩
      rcases Nat.lt_or_ge i m with h | h
      · exact h3 i hi h
      · obtain rfl : i = m := by omega
        exact e
    · exact ⟨m, by omega, e, fun i hi him => by omega⟩
theorem exists_diff {o b : List UInt8} (ho : o.length = 256) (hb : b.length = 256) (h : o ≠ b) : ∃ f t, IsDiff o b f t := by
  obtain ⟨f, h1, h2, h3⟩ := first_diff ho hb h
  obtain ⟨t, h4, h5, h6⟩ := last_diff 256 ⟨f, h1, h3⟩
  have hft : f ≤ t := by
    rcases Nat.lt_or_ge t f with h | h
    · exact absurd (h2 t h) h5
    · exact h
  exact ⟨f, t + 1, by omega, by omega, h2, h3, fun j h7 h8 => h6 j (by omega) h8, by simpa using h5⟩
theorem ext_bt {a b : List UInt8} (h : a.length = b.length) (k : ∀ j, j < a.length → bt a j = bt b j) : a = b := by
  apply List.ext_getElem h
  intro j h1 h2
  exact (bt_eq a j h1 b[j]).1 (by rw [k j h1]; exact (bt_eq b j h2 b[j]).2 rfl)
/-- A patch laid on what was makes what is. -/
theorem layP_diff {i : Int} {o b : List UInt8} {f t : Nat} (ho : o.length = 256) (hb : b.length = 256) (h : IsDiff o b f t) : layP o ⟨i, f, (b.take t).drop f⟩ = b := by
  have h1 := h.lt
  have h2 := h.le
  have hm : ((b.take t).drop f).length = t - f := by rw [List.length_drop, List.length_take]; omega
  unfold layP
  simp only
  rw [hm, show f + (t - f) = t by omega]
  apply List.ext_getElem?
  intro j
  have key : ∀ j, j < 256 → bt o j = bt b j → o[j]? = b[j]? := fun j hj e => by
    rw [List.getElem?_eq_getElem (by omega), List.getElem?_eq_getElem (by omega)]
    exact congrArg some ((bt_eq o j (by omega) b[j]).1 (by rw [e]; exact (bt_eq b j (by omega) b[j]).2 rfl))
  rcases Nat.lt_or_ge j f with h3 | h3
  · rw [List.append_assoc, List.getElem?_append_left (by rw [List.length_take]; omega), List.getElem?_take_of_lt h3]
    exact key j (by omega) (h.pre j h3)
  · rcases Nat.lt_or_ge j t with h4 | h4
    · rw [List.getElem?_append_left (by rw [List.length_append, List.length_take, hm]; omega), List.getElem?_append_right (by rw [List.length_take]; omega), List.length_take, List.getElem?_drop, show f + (j - min f o.length) = j by omega, List.getElem?_take_of_lt h4]
    · rw [List.getElem?_append_right (by rw [List.length_append, List.length_take, hm]; omega), List.length_append, List.length_take, hm, List.getElem?_drop, show t + (j - (min f o.length + (t - f))) = j by omega]
      rcases Nat.lt_or_ge j 256 with h5 | h5
      · exact key j h5 (h.post j h4 h5)
      · rw [List.getElem?_eq_none (by omega), List.getElem?_eq_none (by omega)]
theorem layP_whole {i : Int} {o b : List UInt8} (ho : o.length = 256) (hb : b.length = 256) : layP o ⟨i, 0, b⟩ = b := by
  unfold layP
  simp only [List.take_zero, List.nil_append, Nat.zero_add]
  rw [List.drop_eq_nil_of_le (by omega), List.append_nil]
/-- What one page's patch is. -/
theorem patW_diff {cl : Bool} {i : Int} {o b : List UInt8} (h0 : 0 ≤ i) (h1 : i < 64) (ho : o.length = 256) (hb : b.length = 256) :
    (o = b ∧ (diffP i o b).map (patW cl b) = none) ∨ ∃ q, (diffP i o b).map (patW cl b) = some q ∧ q.ok ∧ q.p = i ∧ layP o q = b ∧ (cl = true → q.b.length = 256) := by
  by_cases e : o = b
  · exact .inl ⟨e, by rw [diffP_none (.inl e)]; rfl⟩
  · right
    obtain ⟨f, t, hd⟩ := exists_diff ho hb e
    have h2 := hd.lt
    have h3 := hd.le
    have hm : ((b.take t).drop f).length = t - f := by rw [List.length_drop, List.length_take]; omega
    rw [diffP_some ho hb hd]
    rcases cl with _ | _
    · refine ⟨_, rfl, ⟨h0, h1, ?_, ?_⟩, rfl, layP_diff ho hb hd, fun h => by cases h⟩
      · intro e
        have : ((b.take t).drop f).length = 0 := by
          have e' : (b.take t).drop f = [] := e
          rw [e']; rfl
        omega
      · show f + ((b.take t).drop f).length ≤ 256
        omega
    · refine ⟨_, rfl, ⟨h0, h1, ?_, ?_⟩, rfl, layP_whole ho hb, fun _ => hb⟩
      · intro e
        have e' : b = [] := e
        rw [e'] at hb; cases hb
      · show 0 + b.length ≤ 256
        omega
theorem layAll_skip {i : Int} : ∀ (l : List Pat) (s : List UInt8), (∀ q, q ∈ l → q.p ≠ i) → layAll i s l = s
  | [], s, _ => rfl
  | q :: l, s, h => by
    show layAll i (if q.p = i then layP s q else s) l = s
    rw [if_neg (h q (List.mem_cons_self ..))]
    exact layAll_skip l s (fun q' h' => h q' (List.mem_cons_of_mem _ h'))
section
variable {cl : Bool} {n : Nat} {B : Nat → List UInt8} {M : Int → Option (List UInt8)}
theorem old_len {i : Int} (h0 : 0 ≤ i) (h1 : i < 16) : (rd 16 (-1) (B0 16) i).1.length = 256 := by
  obtain ⟨m, rfl⟩ := Int.eq_ofNat_of_zero_le h0
  rw [rd_in (by omega)]
  exact B0_len 16 m
theorem AllPag.len (h : AllPag M) {i : Int} (hi : M i ≠ none) : 0 ≤ i ∧ i < 16 ∧ ((M i).getD []).length = 256 := by
  rcases e : M i with _ | b
  · exact absurd e hi
  · obtain ⟨h0, h1, p, hp, rfl⟩ := h i b e
    exact ⟨h0, h1, Pag.bytes_len hp⟩
theorem patsC_cons {a : Int} {t : List Int} {dead : Int} : patsC cl n dead B M (a :: t) = ((diffP a (rd n dead B a).1 ((M a).getD [])).map (patW cl ((M a).getD []))).toList ++ patsC cl n dead B M t := by
  unfold patsC
  rw [List.filterMap_cons]
  split
  · rename_i h; rw [h]; rfl
  · rename_i h; rw [h]; rfl
theorem patsC_all (hM : AllPag M) : ∀ (l : List Int), (∀ i, i ∈ l → M i ≠ none) → ∀ q, q ∈ patsC cl 16 (-1) (B0 16) M l → q.ok ∧ q.p ∈ l ∧ (cl = true → q.b.length = 256) := by
  intro l
  induction l with
  | nil => intro _ q hq; cases hq
  | cons a t ih =>
    intro hl q hq
    rw [patsC_cons, List.mem_append] at hq
    obtain ⟨h0, h1, h2⟩ := hM.len (hl a (List.mem_cons_self ..))
    rcases hq with hq | hq
    · rcases patW_diff (cl := cl) h0 (by omega) (old_len h0 h1) h2 with ⟨_, h3⟩ | ⟨q', h3, h4, h5, _, h6⟩
      · rw [h3] at hq; cases hq
      · rw [h3] at hq
        have : q = q' := by simpa using hq
        subst this
        exact ⟨h4, by rw [h5]; exact List.mem_cons_self .., h6⟩
    · obtain ⟨h3, h4, h5⟩ := ih (fun i hi => hl i (List.mem_cons_of_mem _ hi)) q hq
      exact ⟨h3, List.mem_cons_of_mem _ h4, h5⟩
theorem patsC_sorted (hM : AllPag M) : ∀ (l : List Int), l.Pairwise (· < ·) → (∀ i, i ∈ l → M i ≠ none) → (patsC cl 16 (-1) (B0 16) M l).Pairwise (fun p q => p.p < q.p) := by
  intro l
  induction l with
  | nil => intro _ _; exact List.Pairwise.nil
  | cons a t ih =>
    intro hp hl
    obtain ⟨h0, h1, h2⟩ := hM.len (hl a (List.mem_cons_self ..))
    have h3 := ih (List.pairwise_cons.1 hp).2 (fun i hi => hl i (List.mem_cons_of_mem _ hi))
    rw [patsC_cons]
    rcases patW_diff (cl := cl) h0 (by omega) (old_len h0 h1) h2 with ⟨_, h4⟩ | ⟨q', h4, _, h5, _⟩
    · rw [h4]; exact h3
    · rw [h4]
      refine List.pairwise_cons.2 ⟨fun q hq => ?_, h3⟩
      have := (patsC_all hM t (fun i hi => hl i (List.mem_cons_of_mem _ hi)) q hq).2.1
      rw [h5]
      exact (List.pairwise_cons.1 hp).1 _ this
/-- All patches, laid on the page below, are what the group shows. -/
theorem layAll_pats (hM : AllPag M) (i : Nat) (hi : i < 16) : ∀ (l : List Int), l.Pairwise (· < ·) → (∀ i, i ∈ l → M i ≠ none) → layAll i (B0 16 i) (patsC cl 16 (-1) (B0 16) M l) = if (i : Int) ∈ l then (M i).getD [] else B0 16 i := by
  intro l
  induction l with
  | nil => intro _ _; rfl
  | cons a t ih =>
    intro hp hl
    have hlt := fun j hj => hl j (List.mem_cons_of_mem a hj)
    obtain ⟨h0, h1, h2⟩ := hM.len (hl a (List.mem_cons_self ..))
    have h3 := ih (List.pairwise_cons.1 hp).2 hlt
    have hnot : (a : Int) ∉ t := fun h => by have := (List.pairwise_cons.1 hp).1 a h; omega
    rw [patsC_cons]
    by_cases e : a = i
    · subst e
      rw [if_pos (List.mem_cons_self ..)]
      have hsk : ∀ s, layAll i s (patsC cl 16 (-1) (B0 16) M t) = s := fun s => layAll_skip _ s (fun q hq e => hnot (by rw [← e]; exact (patsC_all hM t hlt q hq).2.1))
      have hold : (rd 16 (-1) (B0 16) (i : Int)).1 = B0 16 i := by rw [rd_in hi]
      rcases patW_diff (cl := cl) h0 (by omega) (old_len h0 h1) h2 with ⟨h4, h5⟩ | ⟨q, h5, _, h6, h7, _⟩
      · rw [h5, ← h4, hold]
        exact hsk _
      · rw [h5]
        show layAll i (if q.p = i then layP (B0 16 i) q else B0 16 i) (patsC cl 16 (-1) (B0 16) M t) = _
        rw [if_pos h6, hsk, ← hold, h7]
    · have hmem : ((i : Int) ∈ a :: t) ↔ (i : Int) ∈ t := by
        rw [List.mem_cons]
        exact ⟨fun h => h.resolve_left (fun h => e h.symm), .inr⟩
      have hgo : layAll i (B0 16 i) (((diffP a (rd 16 (-1) (B0 16) a).1 ((M a).getD [])).map (patW cl ((M a).getD []))).toList ++ patsC cl 16 (-1) (B0 16) M t) = layAll i (B0 16 i) (patsC cl 16 (-1) (B0 16) M t) := by
        rcases patW_diff (cl := cl) h0 (by omega) (old_len h0 h1) h2 with ⟨_, h4⟩ | ⟨q, h4, _, h5, _⟩
        · rw [h4]; rfl
        · rw [h4]
          show layAll i (if q.p = i then layP (B0 16 i) q else B0 16 i) (patsC cl 16 (-1) (B0 16) M t) = _
          rw [if_neg (by rw [h5]; exact e)]
      rw [hgo, h3]
      simp only [hmem]
theorem layAll_shows (hM : AllPag M) (i : Nat) (hi : i < 16) {l : List Int} (hp : l.Pairwise (· < ·)) (hl : ∀ i, i ∈ l ↔ M i ≠ none) : layAll i (B0 16 i) (patsC cl 16 (-1) (B0 16) M l) = (M i).getD (B0 16 i) := by
  rw [layAll_pats hM i hi l hp (fun i h => (hl i).1 h)]
  split
  · rename_i h
    rcases e : M i with _ | b
    · exact absurd e ((hl i).1 h)
    · rfl
  · rename_i h
    rcases e : M i with _ | b
    · rfl
    · exact absurd ((hl i).2 (by rw [e]; simp)) h
end
end Go.Proofs.YtibbmmkjienekaaDoor.Gr
