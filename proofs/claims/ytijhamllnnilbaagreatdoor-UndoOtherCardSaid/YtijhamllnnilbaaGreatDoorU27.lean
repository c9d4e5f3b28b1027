/- Lemmas of the claim, in their order:
- Maps from numbers: a set of pages that were reached; numbers by pages.
-/
import Derived.Test.YtijhamllnnilbaaGreatDoorU26
import Derived.Maps.OwnSet
set_option linter.unusedVariables false
set_option linter.unusedSimpArgs false
namespace Go.Proofs.YtijhamllnnilbaaGreatDoor.Ha
open Go.RowKit Go.Proofs.YtijhamllnnilbaaGreatDoor.Mem Go.Proofs.YtijhamllnnilbaaGreatDoor.Pg Go.Proofs.YtijhamllnnilbaaGreatDoor.Kp Go.Proofs.YtijhamllnnilbaaGreatDoor.Sp Go.Proofs.YtijhamllnnilbaaGreatDoor.Gr
set_option linter.unusedVariables false
set_option linter.unusedSimpArgs false
theorem zero_bool (w : World) : (zeroValue 4).run Tryz.prog w = .ok (.bool false) w := by kernel_rfl
theorem zero_int (w : World) : (zeroValue 3).run Tryz.prog w = .ok (.int .i64 0) w := by kernel_rfl
/-- Block b is a map of m numbers: those of S. -/
def HadIs (w : World) (b : Nat) (S : Int → Bool) (m : Nat) : Prop :=
  ∃ D : DataW Unit, w.ownsMap Tryz.prog 3 (plainElem Tryz.prog 4) b m D ∧ Maps.size D = m ∧ ∀ i, Maps.has D (kl i) = S i ∧ (S i = true → D.atKey (kl i) (.lit (.bool false)) = .lit (.bool true))
theorem HadIs.block {w w' : World} {b m : Nat} {S : Int → Bool} (h : HadIs w b S m) (e : w'.heap[b]? = w.heap[b]?) : HadIs w' b S m := by
  obtain ⟨D, h1, h2⟩ := h
  exact ⟨D, owns_block h1 e, h2⟩
theorem HadIs.lt {w : World} {b m : Nat} {S : Int → Bool} (h : HadIs w b S m) : b < w.heap.size := by
  obtain ⟨D, h1, h2⟩ := h
  exact h1.lt
theorem HadIs.below {w w' : World} {b m : Nat} {S : Int → Bool} (h : HadIs w b S m) (k : Below w.heap.size w w') : HadIs w' b S m := h.block (k.block _ h.lt)
theorem HadIs.made (w : World) : HadIs (w.alloc (.map #[] 0)) w.heap.size (fun _ => false) 0 :=
  ⟨.map [], World.ownsMap_made w _ _ _, rfl, fun i => ⟨rfl, fun h => by cases h⟩⟩
theorem bool_inv' {P : Program} {e : TypeId} (he : P.underlying e = some .bool) {v : Value} {z : DataW Unit × List MemPlace} (h : plainElem P e v = some z) : ∃ x, v = .bool x ∧ z = (.lit (.bool x), []) := by
  unfold plainElem at h
  rw [he] at h
  cases v <;> simp at h
  exact ⟨_, rfl, h.symm⟩
theorem bool_inv {v : Value} {z : DataW Unit × List MemPlace} (h : plainElem Tryz.prog 4 v = some z) : ∃ x, v = .bool x ∧ z = (.lit (.bool x), []) := bool_inv' Tryz.underlying4 h
theorem HadIs.look {w : World} {b m : Nat} {S : Int → Bool} (h : HadIs w b S m) (i : Int) (hi : (Lit.int .i64 i).wf = true) :
    (Instr.lookup 149 (.map (some b)) (.int .i64 i) false).run Tryz.prog w = .ok (.bool (S i)) w := by
  obtain ⟨D, h1, h2, h3⟩ := h
  obtain ⟨v, ps, hrun, hv⟩ := h1.lookup ikeyed Tryz.underlying149 (zero_bool w) (plainElem_bool Tryz.underlying4 false) (Maps.keyOf_int_mk Tryz.underlying3 hi)
  obtain ⟨x, rfl, hx⟩ := bool_inv hv
  have hx1 : D.atKey (kl i) (.lit (.bool false)) = .lit (.bool x) := (Prod.mk.inj hx).1
  obtain ⟨h4, h5⟩ := h3 i
  rcases e : S i with _ | _
  · rw [e] at h4
    rw [Maps.atKey_of_not_has h4] at hx1
    simp only [DataW.lit.injEq, Lit.bool.injEq] at hx1
    rw [← hx1] at hrun
    exact hrun
  · rw [h5 e] at hx1
    simp only [DataW.lit.injEq, Lit.bool.injEq] at hx1
    rw [← hx1] at hrun
    exact hrun
theorem HadIs.put {w : World} {b m : Nat} {S : Int → Bool} (h : HadIs w b S m) (i : Int) (hi : (Lit.int .i64 i).wf = true) (hm : m < 1000000) :
    ∃ w', (Instr.mapUpdate 149 (.map (some b)) (.int .i64 i) (.bool true)).run Tryz.prog w = .ok () w' ∧ HadIs w' b (fun j => j == i || S j) (if S i = true then m else m + 1) ∧ w.grownBy w' (some b) := by
  obtain ⟨D, h1, h2, h3⟩ := h
  have hkey := Maps.keyOf_int_mk Tryz.underlying3 hi
  have hisk : WideAt.IsKeyLit (kl i) := ikeyed.key hkey
  obtain ⟨w', hrun, hown, hg⟩ := h1.update ikeyed Tryz.underlying149 (by unfold maxLen; omega) hkey (plainElem_bool Tryz.underlying4 true)
  have htidy := h1.tidy ikeyed
  have hsz := Maps.size_put (k := kl i) htidy (.lit (.bool true))
  rw [(h3 i).1, h2] at hsz
  refine ⟨w', hrun, ⟨D.put (kl i) (.lit (.bool true)), ?_, hsz, fun j => ?_⟩, hg⟩
  · rw [← hsz]; exact owns_tight hown
  · by_cases hj : j = i
    · subst hj
      rw [Maps.has_put_same htidy.isMap hisk, Maps.atKey_put_same htidy.isMap hisk]
      simp
    · rw [Maps.has_put_other (kl_ne hj), Maps.atKey_put_other (kl_ne hj), (h3 j).1]
      simp only [beq_eq_false_iff_ne.2 hj, Bool.false_or]
      exact ⟨trivial, (h3 j).2⟩
theorem HadIs.len {w : World} {b m : Nat} {S : Int → Bool} (h : HadIs w b S m) (ty : TypeId) : (Builtin.len_ #[149] ty #[.map (some b)]).run Tryz.prog w = .ok (.int .i64 m) w := by
  obtain ⟨D, h1, h2, _⟩ := h
  rw [← h2]
  exact h1.len Tryz.underlying149 ty
theorem HadIs.drop {w : World} {b m : Nat} {S : Int → Bool} (h : HadIs w b S m) (i : Int) (hi : (Lit.int .i64 i).wf = true) (ty : TypeId) :
    ∃ w', (Builtin.delete_ #[149, 3] ty #[.map (some b), .int .i64 i]).run Tryz.prog w = .ok (.tuple #[]) w' ∧ HadIs w' b (fun j => !(j == i) && S j) (if S i = true then m - 1 else m) ∧ w.grownBy w' (some b) := by
  obtain ⟨D, h1, h2, h3⟩ := h
  have hkey := Maps.keyOf_int_mk Tryz.underlying3 hi
  have htidy := h1.tidy ikeyed
  obtain ⟨w', hrun, hown, hg⟩ := h1.drop ikeyed Tryz.underlying149 hkey ty
  have hsz := Maps.size_del (k := kl i) htidy
  rw [(h3 i).1, h2] at hsz
  have hsz2 : Maps.size (D.del (kl i)) = if S i = true then m - 1 else m := by
    by_cases e : S i = true
    · rw [if_pos e] at hsz ⊢; omega
    · rw [if_neg e] at hsz ⊢; omega
  refine ⟨w', hrun, ⟨D.del (kl i), ?_, hsz2, fun j => ?_⟩, hg.grown⟩
  · rw [← hsz2]; exact owns_tight hown
  · by_cases hj : j = i
    · subst hj
      rw [Maps.has_del_same]
      simp
    · rw [Maps.has_del_other (kl_ne hj), Maps.atKey_del_other (kl_ne hj), (h3 j).1]
      simp only [beq_eq_false_iff_ne.2 hj, Bool.not_false, Bool.true_and]
      exact ⟨trivial, (h3 j).2⟩
/-- The pages V were reached, none of them twice: block rb, its map mb. -/
structure Rch (w : World) (rb mb : Nat) (V : List Nat) : Prop where
  blk : w.heap[rb]? = some (.cells #[.map (some mb), .bool false] 151 (0, 0))
  map : HadIs w mb (fun i => decide (i ∈ toI V)) V.length
  nd : V.Nodup
  ne : rb ≠ mb
theorem Rch.below {w w' : World} {rb mb : Nat} {V : List Nat} (h : Rch w rb mb V) (k : Below w.heap.size w w') : Rch w' rb mb V := ⟨blk_keep h.blk k, h.map.below k, h.nd, h.ne⟩
theorem Rch.keep {S : Nat → Prop} {w w' : World} {rb mb : Nat} {V : List Nat} (h : Rch w rb mb V) (k : Keep S w w') (h1 : ¬ S rb) (h2 : ¬ S mb) : Rch w' rb mb V :=
  ⟨k.blk h.blk h1, h.map.block (k.block _ h.map.lt h2), h.nd, h.ne⟩
theorem toI_mem {V : List Nat} {m : Nat} : ((m : Nat) : Int) ∈ toI V ↔ m ∈ V := by
  unfold toI
  rw [List.mem_map]
  constructor
  · rintro ⟨a, h1, h2⟩
    have : a = m := by omega
    exact this ▸ h1
  · exact fun h => ⟨m, h, rfl⟩
/-- Block b is a map from numbers to numbers: F; it has m of them at most. -/
def NumIs (w : World) (b : Nat) (F : Int → Option Int) (m : Nat) : Prop :=
  ∃ D : DataW Unit, w.ownsMap Tryz.prog 3 (plainElem Tryz.prog 3) b m D ∧ (∀ i, Maps.has D (kl i) = (F i).isSome) ∧ ∀ i y, F i = some y → D.atKey (kl i) (.lit (.int .i64 0)) = .lit (.int .i64 y)
theorem NumIs.block {w w' : World} {b m : Nat} {F : Int → Option Int} (h : NumIs w b F m) (e : w'.heap[b]? = w.heap[b]?) : NumIs w' b F m := by
  obtain ⟨D, h1, h2⟩ := h
  exact ⟨D, owns_block h1 e, h2⟩
theorem NumIs.lt {w : World} {b m : Nat} {F : Int → Option Int} (h : NumIs w b F m) : b < w.heap.size := by
  obtain ⟨D, h1, h2⟩ := h
  exact h1.lt
theorem NumIs.below {w w' : World} {b m : Nat} {F : Int → Option Int} (h : NumIs w b F m) (k : Below w.heap.size w w') : NumIs w' b F m := h.block (k.block _ h.lt)
theorem NumIs.made (w : World) : NumIs (w.alloc (.map #[] 0)) w.heap.size (fun _ => none) 0 :=
  ⟨.map [], World.ownsMap_made w _ _ _, fun i => rfl, fun i y h => by cases h⟩
theorem NumIs.look {w : World} {b m : Nat} {F : Int → Option Int} (h : NumIs w b F m) (i : Int) (hi : (Lit.int .i64 i).wf = true) :
    (Instr.lookup 234 (.map (some b)) (.int .i64 i) true).run Tryz.prog w = .ok (.tuple #[.int .i64 ((F i).getD 0), .bool (F i).isSome]) w := by
  obtain ⟨D, h1, h2, h3⟩ := h
  obtain ⟨v, ps, hrun, hv⟩ := h1.look_ok ikeyed Tryz.underlying234 (zero_int w) (plainElem_int Tryz.underlying3 (by decide)) (Maps.keyOf_int_mk Tryz.underlying3 hi)
  obtain ⟨x, rfl, hx, _⟩ := plainElem_int_inv Tryz.underlying3 hv
  have hx1 : D.atKey (kl i) (.lit (.int .i64 0)) = .lit (.int .i64 x) := (Prod.mk.inj hx).1
  rw [h2 i] at hrun
  rcases e : F i with _ | y
  · rw [e] at hrun
    have h4 : Maps.has D (kl i) = false := by rw [h2 i, e]; rfl
    rw [Maps.atKey_of_not_has h4] at hx1
    simp only [DataW.lit.injEq, Lit.int.injEq, true_and] at hx1
    rw [← hx1] at hrun
    exact hrun
  · rw [e] at hrun
    rw [h3 i y e] at hx1
    simp only [DataW.lit.injEq, Lit.int.injEq, true_and] at hx1
    rw [← hx1] at hrun
    exact hrun
def updI (F : Int → Option Int) (i y : Int) : Int → Option Int := fun j => if j = i then some y else F j
theorem NumIs.put {w : World} {b m : Nat} {F : Int → Option Int} (h : NumIs w b F m) (i y : Int) (hi : (Lit.int .i64 i).wf = true) (hy : (Lit.int .i64 y).wf = true) (hm : m < 1000000) :
    ∃ w', (Instr.mapUpdate 234 (.map (some b)) (.int .i64 i) (.int .i64 y)).run Tryz.prog w = .ok () w' ∧ NumIs w' b (updI F i y) (m + 1) ∧ w.grownBy w' (some b) := by
  obtain ⟨D, h1, h2, h3⟩ := h
  have hkey := Maps.keyOf_int_mk Tryz.underlying3 hi
  have hisk : WideAt.IsKeyLit (kl i) := ikeyed.key hkey
  obtain ⟨w', hrun, hown, hg⟩ := h1.update ikeyed Tryz.underlying234 (by unfold maxLen; omega) hkey (plainElem_int Tryz.underlying3 hy)
  have htidy := h1.tidy ikeyed
  refine ⟨w', hrun, ⟨D.put (kl i) (.lit (.int .i64 y)), hown, fun j => ?_, fun j z => ?_⟩, hg⟩
  · unfold updI
    by_cases hj : j = i
    · subst hj
      rw [Maps.has_put_same htidy.isMap hisk, if_pos rfl]; rfl
    · rw [Maps.has_put_other (kl_ne hj), if_neg hj]; exact h2 j
  · unfold updI
    by_cases hj : j = i
    · subst hj
      rw [Maps.atKey_put_same htidy.isMap hisk, if_pos rfl]
      intro e
      rw [Option.some.inj e]
    · rw [Maps.atKey_put_other (kl_ne hj), if_neg hj]; exact h3 j z
end Go.Proofs.YtijhamllnnilbaaGreatDoor.Ha
