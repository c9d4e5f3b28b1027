/- Patches: what two pages' bytes differ in. No program in sight. -/
import Derived.Test.YtibbmmkjienekaaDoorGrStore
import Derived.Test.YtibbmmkjienekaaDoorSpacePages
namespace Go.Proofs.YtibbmmkjienekaaDoor.Gr
open Go.RowKit Go.Proofs.YtibbmmkjienekaaDoor.Mem Go.Proofs.YtibbmmkjienekaaDoor.Pg Go.Proofs.YtibbmmkjienekaaDoor.Kp

/-- From f to t two lists of bytes differ, and nowhere else. -/
structure IsDiff (o b : List UInt8) (f t : Nat) : Prop where
  lt : f < t
  le : t ≤ 256
  pre : ∀ j, j < f → Sp.bt o j = Sp.bt b j
  at0 : Sp.bt o f ≠ Sp.bt b f
  post : ∀ j, t ≤ j → j < 256 → Sp.bt o j = Sp.bt b j
  at1 : Sp.bt o (t - 1) ≠ Sp.bt b (t - 1)
theorem IsDiff.one {o b : List UInt8} {f t f' t' : Nat} (h : IsDiff o b f t) (k : IsDiff o b f' t') : f = f' ∧ t = t' := by
  constructor
  · rcases Nat.lt_trichotomy f f' with e | e | e
    · exact absurd (k.pre f e) h.at0
    · exact e
    · exact absurd (h.pre f' e) k.at0
  · have h1 := h.lt
    have h2 := h.le
    have k1 := k.lt
    have k2 := k.le
    rcases Nat.lt_trichotomy t t' with e | e | e
    · exact absurd (h.post (t' - 1) (by omega) (by omega)) k.at1
    · exact e
    · exact absurd (k.post (t - 1) (by omega) (by omega)) h.at1
/-- A patch: of which page, from where, its bytes. -/
structure Pat where
  p : Int
  a : Nat
  b : List UInt8
def Pat.v (q : Pat) : Value := .agg #[.int .i64 q.p, .int .i64 q.a, .string (str q.b)]
def Pat.cells (q : Pat) : List Value := [.int .i64 q.p, .int .i64 q.a, .string (str q.b)]
def flatP (l : List Pat) : List Value := l.flatMap Pat.cells
theorem flatP_len (l : List Pat) : (flatP l).length = l.length * 3 := by
  induction l with
  | nil => rfl
  | cons a l ih => simp [flatP, Pat.cells] at ih ⊢; omega
theorem flatP_append (l m : List Pat) : flatP (l ++ m) = flatP l ++ flatP m := by simp [flatP]
/-- The patch of a page that was o and is b. -/
noncomputable def diffP (i : Int) (o b : List UInt8) : Option Pat := open Classical in if h : o.length = 256 ∧ b.length = 256 ∧ ∃ f t, IsDiff o b f t then some ⟨i, h.2.2.choose, (b.take h.2.2.choose_spec.choose).drop h.2.2.choose⟩ else none
theorem diffP_some {i : Int} {o b : List UInt8} {f t : Nat} (ho : o.length = 256) (hb : b.length = 256) (h : IsDiff o b f t) : diffP i o b = some ⟨i, f, (b.take t).drop f⟩ := by
  have hex : o.length = 256 ∧ b.length = 256 ∧ ∃ f t, IsDiff o b f t := ⟨ho, hb, f, t, h⟩
  have hs := hex.2.2.choose_spec.choose_spec
  obtain ⟨e1, e2⟩ := hs.one h
  rw [diffP, dif_pos hex]
  simp only [e2]
  simp only [e1]
theorem diffP_none {i : Int} {o b : List UInt8} (h : o = b ∨ o.length ≠ 256 ∨ b.length ≠ 256) : diffP i o b = none := by
  rw [diffP, dif_neg]
  rintro ⟨h1, h2, f, t, h3⟩
  rcases h with h | h | h
  · subst h; exact h3.at0 rfl
  · exact h h1
  · exact h h2
/-- What two lists of 256 bytes that are not one differ in. -/
theorem first_diff {o b : List UInt8} (ho : o.length = 256) (hb : b.length = 256) (h : o ≠ b) : ∃ f, f < 256 ∧ (∀ j, j < f → Sp.bt o j = Sp.bt b j) ∧ Sp.bt o f ≠ Sp.bt b f := by
  have h1 : ∃ j, j < 256 ∧ Sp.bt o j ≠ Sp.bt b j := by
    rcases Classical.em (∃ j, j < 256 ∧ Sp.bt o j ≠ Sp.bt b j) with k | k
    · exact k
    · exfalso
      apply h
      apply List.ext_getElem (by omega)
      intro j h1 h2
      rcases Classical.em (Sp.bt o j = Sp.bt b j) with e | e
      · have e1 := (Sp.bt_eq o j h1 b[j]).1 (by rw [e]; exact (Sp.bt_eq b j h2 b[j]).2 rfl)
        exact e1
      · exact absurd ⟨j, by omega, e⟩ k
  obtain ⟨m, hm⟩ : ∃ m, m = 256 := ⟨_, rfl⟩
  have key : ∀ m, (∃ j, j < m ∧ Sp.bt o j ≠ Sp.bt b j) → ∃ f, f < m ∧ (∀ j, j < f → Sp.bt o j = Sp.bt b j) ∧ Sp.bt o f ≠ Sp.bt b f := by
    intro m
    induction m with
    | zero => rintro ⟨j, hj, _⟩; omega
    | succ m ih =>
      rintro ⟨j, hj, hne⟩
      rcases Classical.em (∃ j, j < m ∧ Sp.bt o j ≠ Sp.bt b j) with k | k
      · obtain ⟨f, h1, h2⟩ := ih k
        exact ⟨f, by omega, h2⟩
      · obtain rfl : j = m := by
          rcases Nat.lt_or_ge j m with h | h
          · exact absurd ⟨j, h, hne⟩ k
          · omega
        exact ⟨j, by omega, fun i hi => by
          rcases Classical.em (Sp.bt o i = Sp.bt b i) with e | e
          · exact e
          · exact absurd ⟨i, hi, e⟩ k, hne⟩
  exact key 256 h1
theorem cut_cut (b : List UInt8) (f t : Nat) : (str b).extract f t = str ((b.take t).drop f) := by
  apply ByteArray.ext
  apply Array.toList_inj.1
  simp [ByteArray.data_extract, List.drop_take]
end Go.Proofs.YtibbmmkjienekaaDoor.Gr
