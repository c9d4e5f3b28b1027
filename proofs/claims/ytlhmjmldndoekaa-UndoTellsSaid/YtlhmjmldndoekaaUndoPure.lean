/- Plain mathematics of chapter 21: what is to be undone, as a function of a record's number. No program in sight. -/
namespace Go.Proofs.Ytlhmjmldndoekaa.Undo

/-- Where one goes on behind a record of kind k; whether it is to be undone; whether it may be. -/
def onF (k p n : Int) : Int × Bool × Bool :=
  if k = 1 then (p, true, true) else if k = 2 then (n, false, true) else if k = 6 ∨ k = 4 then (p, false, true) else (0, false, false)

/-- The step from a record: none if it is no such log. -/
def nxt (len : Nat) (K P N : Nat → Int) (lsn : Int) : Option (Int × Bool) :=
  if lsn ≤ len then
    (if (onF (K (lsn - 1).toNat) (P (lsn - 1).toNat) (N (lsn - 1).toNat)).2.2 = true ∧ (onF (K (lsn - 1).toNat) (P (lsn - 1).toNat) (N (lsn - 1).toNat)).1 < lsn then
      some ((onF (K (lsn - 1).toNat) (P (lsn - 1).toNat) (N (lsn - 1).toNat)).1, (onF (K (lsn - 1).toNat) (P (lsn - 1).toNat) (N (lsn - 1).toNat)).2.1) else none)
  else none

/-- All steps, with so much fuel. -/
def steps (nx : Int → Option (Int × Bool)) (m : Int) : Nat → Int → Option (List Int)
  | 0, _ => some []
  | f + 1, lsn =>
    if m < lsn then
      match nx lsn with
      | none => none
      | some (q, b) => (steps nx m f q).map fun l => if b then lsn :: l else l
    else some []

def Falls (nx : Int → Option (Int × Bool)) : Prop := ∀ lsn q b, nx lsn = some (q, b) → q < lsn

theorem nxt_falls (len : Nat) (K P N : Nat → Int) : Falls (nxt len K P N) := by
  intro lsn q b h
  unfold nxt at h
  split at h
  · split at h
    · rename_i h1
      injection h with h
      injection h with h2 h3
      rw [← h2]
      exact h1.2
    · cases h
  · cases h

theorem steps_stop (nx : Int → Option (Int × Bool)) (m : Int) (f : Nat) (lsn : Int) (h : ¬ m < lsn) : steps nx m f lsn = some [] := by
  cases f
  · rfl
  · simp [steps, h]

theorem steps_fuel {nx : Int → Option (Int × Bool)} (hn : Falls nx) (m : Int) : ∀ (f g : Nat) (lsn : Int), lsn ≤ m + f → lsn ≤ m + g → steps nx m f lsn = steps nx m g lsn := by
  intro f
  induction f with
  | zero => intro g lsn h _; rw [steps_stop _ _ _ _ (by omega), steps_stop _ _ _ _ (by omega)]
  | succ f ih =>
    intro g lsn h hg
    by_cases hm : m < lsn
    · obtain ⟨g, rfl⟩ : ∃ k, g = k + 1 := ⟨g - 1, by omega⟩
      simp only [steps, if_pos hm]
      cases hq : nx lsn with
      | none => rfl
      | some qb =>
        obtain ⟨q, b⟩ := qb
        have := hn _ _ _ hq
        simp only
        rw [ih g q (by omega) (by omega)]
    · rw [steps_stop _ _ _ _ hm, steps_stop _ _ _ _ hm]

/-- All steps from a record on, down to m. -/
def all (nx : Int → Option (Int × Bool)) (m lsn : Int) : Option (List Int) := steps nx m (lsn - m).toNat lsn

theorem all_stop (nx : Int → Option (Int × Bool)) (m lsn : Int) (h : ¬ m < lsn) : all nx m lsn = some [] := steps_stop _ _ _ _ h
theorem all_bad {nx : Int → Option (Int × Bool)} {m lsn : Int} (h : m < lsn) (hb : nx lsn = none) : all nx m lsn = none := by
  unfold all
  obtain ⟨f, hf⟩ : ∃ f, (lsn - m).toNat = f + 1 := ⟨(lsn - m).toNat - 1, by omega⟩
  rw [hf]
  simp [steps, h, hb]
theorem all_step {nx : Int → Option (Int × Bool)} (hn : Falls nx) {m lsn q : Int} {b : Bool} (h : m < lsn) (hb : nx lsn = some (q, b)) :
    all nx m lsn = (all nx m q).map fun l => if b then lsn :: l else l := by
  have hq := hn _ _ _ hb
  unfold all
  obtain ⟨f, hf⟩ : ∃ f, (lsn - m).toNat = f + 1 := ⟨(lsn - m).toNat - 1, by omega⟩
  rw [hf]
  simp only [steps, if_pos h, hb]
  rw [steps_fuel hn m f (q - m).toNat q (by omega) (by omega)]

theorem all_le {nx : Int → Option (Int × Bool)} (hn : Falls nx) (m : Int) : ∀ (f : Nat) (lsn : Int), lsn ≤ m + f → ∀ l, all nx m lsn = some l → ∀ x ∈ l, m < x ∧ x ≤ lsn := by
  intro f
  induction f with
  | zero => intro lsn h l hl x hx; rw [all_stop _ _ _ (by omega)] at hl; injection hl with hl; subst hl; cases hx
  | succ f ih =>
    intro lsn h l hl x hx
    by_cases hm : m < lsn
    · cases hq : nx lsn with
      | none => rw [all_bad hm hq] at hl; cases hl
      | some qb =>
        obtain ⟨q, b⟩ := qb
        have hlt := hn _ _ _ hq
        rw [all_step hn hm hq] at hl
        obtain ⟨l', hl', rfl⟩ := Option.map_eq_some_iff.1 hl
        have ih' := ih q (by omega) l' hl'
        cases b
        · have := ih' x hx
          omega
        · simp only [if_true] at hx
          rcases List.mem_cons.1 hx with rfl | hx
          · omega
          · have := ih' x hx
            omega
    · rw [all_stop _ _ _ hm] at hl; injection hl with hl; subst hl; cases hx

/-- The length: at most as many as numbers above m. -/
theorem all_length {nx : Int → Option (Int × Bool)} (hn : Falls nx) (m : Int) : ∀ (f : Nat) (lsn : Int), lsn ≤ m + f → ∀ l, all nx m lsn = some l → (l.length : Int) ≤ max 0 (lsn - m) := by
  intro f
  induction f with
  | zero => intro lsn h l hl; rw [all_stop _ _ _ (by omega)] at hl; injection hl with hl; subst hl; simp; omega
  | succ f ih =>
    intro lsn h l hl
    by_cases hm : m < lsn
    · cases hq : nx lsn with
      | none => rw [all_bad hm hq] at hl; cases hl
      | some qb =>
        obtain ⟨q, b⟩ := qb
        have hlt := hn _ _ _ hq
        rw [all_step hn hm hq] at hl
        obtain ⟨l', hl', rfl⟩ := Option.map_eq_some_iff.1 hl
        have ih' := ih q (by omega) l' hl'
        cases b <;> simp <;> omega
    · rw [all_stop _ _ _ hm] at hl; injection hl with hl; subst hl; simp; omega

/-- What is to be undone down to a record is the head of what is to be undone at all; what is behind it lies below. -/
theorem all_parts {nx : Int → Option (Int × Bool)} (hn : Falls nx) (m : Int) (hm0 : 0 ≤ m) : ∀ (f : Nat) (lsn : Int), lsn ≤ f → ∀ l, all nx 0 lsn = some l →
    ∃ p r, all nx m lsn = some p ∧ l = p ++ r ∧ ∀ x ∈ r, x ≤ m := by
  intro f
  induction f with
  | zero =>
    intro lsn h l hl
    rw [all_stop _ _ _ (by omega)] at hl; injection hl with hl; subst hl
    exact ⟨[], [], all_stop _ _ _ (by omega), rfl, fun x hx => by cases hx⟩
  | succ f ih =>
    intro lsn h l hl
    by_cases h0 : 0 < lsn
    · by_cases hm : m < lsn
      · cases hq : nx lsn with
        | none => rw [all_bad h0 hq] at hl; cases hl
        | some qb =>
          obtain ⟨q, b⟩ := qb
          have hlt := hn _ _ _ hq
          rw [all_step hn h0 hq] at hl
          obtain ⟨l', hl', rfl⟩ := Option.map_eq_some_iff.1 hl
          obtain ⟨p, r, hp, rfl, hr⟩ := ih q (by omega) l' hl'
          refine ⟨if b then lsn :: p else p, r, by rw [all_step hn hm hq, hp]; rfl, by cases b <;> rfl, hr⟩
      · refine ⟨[], l, all_stop _ _ _ hm, rfl, fun x hx => ?_⟩
        have := all_le hn 0 lsn.toNat lsn (by omega) l hl x hx
        omega
    · rw [all_stop _ _ _ h0] at hl; injection hl with hl; subst hl
      exact ⟨[], [], all_stop _ _ _ (by omega), rfl, fun x hx => by cases hx⟩

end Go.Proofs.Ytlhmjmldndoekaa.Undo
