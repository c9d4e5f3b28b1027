/- Maps from the numbers of pages to strings. -/
import Derived.Test.YtibbmmkjienekaaDoorPagGet
import Derived.Maps.StringElems
import Derived.Maps.RangeWalk
import Derived.Maps.OwnSet
namespace Go.Proofs.YtibbmmkjienekaaDoor.Gr
open Go.RowKit Go.Proofs.YtibbmmkjienekaaDoor.Mem Go.Proofs.YtibbmmkjienekaaDoor.Pg Go.Proofs.YtibbmmkjienekaaDoor.Kp

theorem ikeyed : Maps.Keyed Tryd.prog 3 := Maps.int_keyed Tryd.underlying3
theorem zero_str (w : World) : (zeroValue 9).run Tryd.prog w = .ok (.string ⟨#[]⟩) w := by kernel_rfl
abbrev kl (i : Int) : Lit := .int .i64 i
theorem kl_ne {i j : Int} (h : i ≠ j) : kl i ≠ kl j := fun e => h (by injection e)
theorem kl_wf {i : Int} (h0 : 0 ≤ i) (h1 : i < 64) : (Lit.int .i64 i).wf = true := by
  have h2 : IntKind.i64.min = -9223372036854775808 := rfl
  have h3 : IntKind.i64.max = 9223372036854775807 := rfl
  simp only [Lit.wf, h2, h3, Bool.and_eq_true, decide_eq_true_eq]
  omega
theorem nodup_le : ∀ (m : Nat) (ks : List Int), ks.Nodup → (∀ i ∈ ks, 0 ≤ i ∧ i < m) → ks.length ≤ m
  | 0, ks, _, h => by
    cases ks with
    | nil => simp
    | cons a r => have := h a (by simp); omega
  | m + 1, ks, hn, h => by
    by_cases hm : (m : Int) ∈ ks
    · have h1 := nodup_le m (ks.erase (m : Int)) (hn.erase _) (fun i hi => by
        have h2 := hn.mem_erase_iff.1 hi
        have h3 := h i h2.2
        have h4 := h2.1
        omega)
      rw [List.length_erase_of_mem hm] at h1
      omega
    · have h1 := nodup_le m ks hn (fun i hi => by
        have h3 := h i hi
        have h4 : i ≠ m := fun e => hm (e ▸ hi)
        omega)
      omega

/-- Block b is a map that holds F: from numbers of pages to their bytes. -/
structure MapIs (w : World) (b : Nat) (F : Int → Option (List UInt8)) : Prop where
  ex : ∃ (D : DataW Unit) (ks : List Int), w.ownsMap Tryd.prog 3 (plainElem Tryd.prog 9) b (Maps.size D) D ∧ ks.Nodup ∧ Maps.size D = ks.length ∧ (∀ i, i ∈ ks ↔ F i ≠ none) ∧ (∀ i, Maps.has D (kl i) = (F i).isSome) ∧ ∀ i l, F i = some l → D.atKey (kl i) (.lit (.string [])) = .lit (.string l)
  rng : ∀ i l, F i = some l → 0 ≤ i ∧ i < 64 ∧ l.length ≤ 1000000
def upd (F : Int → Option (List UInt8)) (i : Int) (l : List UInt8) : Int → Option (List UInt8) := fun j => if j = i then some l else F j
theorem upd_same (F : Int → Option (List UInt8)) (i : Int) (l : List UInt8) : upd F i l i = some l := if_pos rfl
theorem upd_other (F : Int → Option (List UInt8)) {i j : Int} (l : List UInt8) (h : j ≠ i) : upd F i l j = F j := if_neg h

theorem owns_tight {w : World} {b n : Nat} {D : DataW Unit} {k : TypeId} {R : Value → Option (DataW Unit × List MemPlace)} (h : w.ownsMap Tryd.prog k R b n D) : w.ownsMap Tryd.prog k R b (Maps.size D) D := by
  obtain ⟨es, clock, hb, F, _, rfl⟩ := h
  refine ⟨es, clock, hb, F, ?_, rfl⟩
  rw [Maps.size_eq, length_read]
  exact Nat.le_refl _
theorem owns_block {w w' : World} {b n : Nat} {D : DataW Unit} {k : TypeId} {R : Value → Option (DataW Unit × List MemPlace)} (h : w.ownsMap Tryd.prog k R b n D) (e : w'.heap[b]? = w.heap[b]?) : w'.ownsMap Tryd.prog k R b n D := by
  obtain ⟨es, clock, hb, F, hs, rfl⟩ := h
  exact ⟨es, clock, e.trans hb, F, hs, rfl⟩

section
variable {w w' : World} {b : Nat} {F : Int → Option (List UInt8)}
theorem MapIs.lt (h : MapIs w b F) : b < w.heap.size := by
  obtain ⟨D, ks, ho, _⟩ := h.ex
  exact ho.lt
theorem MapIs.block (h : MapIs w b F) (e : w'.heap[b]? = w.heap[b]?) : MapIs w' b F := by
  obtain ⟨D, ks, ho, rest⟩ := h.ex
  exact ⟨⟨D, ks, owns_block ho e, rest⟩, h.rng⟩
theorem MapIs.keep {S : Nat → Prop} (h : MapIs w b F) (k : Keep S w w') (hs : ¬ S b) : MapIs w' b F := h.block (k.block _ h.lt hs)
theorem MapIs.below (h : MapIs w b F) (k : Below w.heap.size w w') : MapIs w' b F := h.block (k.block _ h.lt)
theorem MapIs.made (w : World) : MapIs (w.alloc (.map #[] 0)) w.heap.size (fun _ => none) := by
  refine ⟨⟨.map [], [], World.ownsMap_made w _ _ _, List.nodup_nil, rfl, by simp, ?_, ?_⟩, ?_⟩
  · intro i; rfl
  · intro i l h; cases h
  · intro i l h; cases h
theorem MapIs.look (h : MapIs w b F) (i : Int) (hi : (Lit.int .i64 i).wf = true) :
    (Instr.lookup 64 (.map (some b)) (.int .i64 i) true).run Tryd.prog w = .ok (.tuple #[.string (str ((F i).getD [])), .bool (F i).isSome]) w := by
  obtain ⟨D, ks, ho, hn, hsz, hks, hhas, hat⟩ := h.ex
  have hz := plainElem_string (H := Unit) (P := Tryd.prog) (e := 9) Tryd.underlying9 (s := ⟨#[]⟩) (by simp [ByteArray.size, maxLen])
  obtain ⟨v, ps, hrun, hv⟩ := ho.look_ok ikeyed Tryd.underlying64 (zero_str w) hz (Maps.keyOf_int_mk Tryd.underlying3 hi)
  rw [hhas i] at hrun
  obtain ⟨s, rfl, hs, _⟩ := plainElem_string_inv Tryd.underlying9 hv
  have hs1 : D.atKey (kl i) (.lit (.string [])) = .lit (.string s.data.toList) := (Prod.mk.inj hs).1
  rcases e : F i with _ | l
  · rw [e] at hrun
    have h1 : Maps.has D (kl i) = false := by rw [hhas i, e]; rfl
    rw [Maps.atKey_of_not_has h1] at hs1
    simp only [DataW.lit.injEq, Lit.string.injEq] at hs1
    have hs2 : s = str s.data.toList := str_of s
    rw [← hs1] at hs2
    rw [hs2] at hrun
    simp only [Option.getD_none, Option.isSome_none] at hrun ⊢
    exact hrun
  · rw [e] at hrun
    rw [hat i l e] at hs1
    simp only [DataW.lit.injEq, Lit.string.injEq] at hs1
    have hs2 : s = str s.data.toList := str_of s
    rw [← hs1] at hs2
    rw [hs2] at hrun
    simp only [Option.getD_some, Option.isSome_some] at hrun ⊢
    exact hrun
theorem MapIs.look1 (h : MapIs w b F) (i : Int) (hi : (Lit.int .i64 i).wf = true) :
    (Instr.lookup 64 (.map (some b)) (.int .i64 i) false).run Tryd.prog w = .ok (.string (str ((F i).getD []))) w := by
  obtain ⟨D, ks, ho, hn, hsz, hks, hhas, hat⟩ := h.ex
  have hz := plainElem_string (H := Unit) (P := Tryd.prog) (e := 9) Tryd.underlying9 (s := ⟨#[]⟩) (by simp [ByteArray.size, maxLen])
  obtain ⟨v, ps, hrun, hv⟩ := ho.lookup ikeyed Tryd.underlying64 (zero_str w) hz (Maps.keyOf_int_mk Tryd.underlying3 hi)
  obtain ⟨s, rfl, hs, _⟩ := plainElem_string_inv Tryd.underlying9 hv
  have hs1 : D.atKey (kl i) (.lit (.string [])) = .lit (.string s.data.toList) := (Prod.mk.inj hs).1
  rcases e : F i with _ | l
  · have h1 : Maps.has D (kl i) = false := by rw [hhas i, e]; rfl
    rw [Maps.atKey_of_not_has h1] at hs1
    simp only [DataW.lit.injEq, Lit.string.injEq] at hs1
    have hs2 : s = str s.data.toList := str_of s
    rw [← hs1] at hs2
    rw [hs2] at hrun
    simp only [Option.getD_none]
    exact hrun
  · rw [hat i l e] at hs1
    simp only [DataW.lit.injEq, Lit.string.injEq] at hs1
    have hs2 : s = str s.data.toList := str_of s
    rw [← hs1] at hs2
    rw [hs2] at hrun
    simp only [Option.getD_some]
    exact hrun
theorem MapIs.put (h : MapIs w b F) (i : Int) (h0 : 0 ≤ i) (h1 : i < 64) (l : List UInt8) (hl : l.length ≤ 1000000) :
    ∃ w', (Instr.mapUpdate 64 (.map (some b)) (.int .i64 i) (.string (str l))).run Tryd.prog w = .ok () w' ∧ MapIs w' b (upd F i l) ∧ w.grownBy w' (some b) := by
  obtain ⟨D, ks, ho, hn, hsz, hks, hhas, hat⟩ := h.ex
  have hwf := kl_wf h0 h1
  have hlen : ks.length ≤ 64 := nodup_le 64 ks hn (fun j hj => by
    rcases e : F j with _ | l'
    · exact absurd e ((hks j).1 hj)
    · have := h.rng j l' e
      exact ⟨this.1, this.2.1⟩)
  have hkey := Maps.keyOf_int_mk Tryd.underlying3 hwf
  have hisk : WideAt.IsKeyLit (kl i) := ikeyed.key hkey
  have hv : plainElem (H := Unit) Tryd.prog 9 (.string (str l)) = some (.lit (.string l), []) := plainElem_string Tryd.underlying9 (by rw [str_size]; unfold maxLen; omega)
  obtain ⟨w', hrun, hown, hg⟩ := ho.update ikeyed Tryd.underlying64 (by rw [hsz]; unfold maxLen; omega) hkey hv
  have htidy := ho.tidy ikeyed
  have hsz' := Maps.size_put (k := kl i) htidy (.lit (.string l))
  refine ⟨w', hrun, ⟨⟨D.put (kl i) (.lit (.string l)), if F i = none then i :: ks else ks, owns_tight hown, ?_, ?_, ?_, ?_, ?_⟩, ?_⟩, hg⟩
  · split
    · rename_i e
      exact List.nodup_cons.2 ⟨fun hi => (hks i).1 hi e, hn⟩
    · exact hn
  · rw [hsz', hhas i]
    rcases e : F i with _ | l'
    · simp [hsz]
    · simp [hsz]
  · intro j
    by_cases hj : j = i
    · subst hj
      rw [upd_same]
      split
      · simp
      · rename_i e
        simpa using (hks j).2 e
    · rw [upd_other _ _ hj, ← hks j]
      split
      · simp [hj]
      · exact Iff.rfl
  · intro j
    by_cases hj : j = i
    · subst hj
      rw [upd_same, Maps.has_put_same htidy.isMap hisk]
      rfl
    · rw [upd_other _ _ hj, Maps.has_put_other (kl_ne hj)]
      exact hhas j
  · intro j l' hjl
    by_cases hj : j = i
    · subst hj
      rw [upd_same] at hjl
      rw [Maps.atKey_put_same htidy.isMap hisk, Option.some.inj hjl]
    · rw [upd_other _ _ hj] at hjl
      rw [Maps.atKey_put_other (kl_ne hj)]
      exact hat j l' hjl
  · intro j l' hjl
    by_cases hj : j = i
    · subst hj
      rw [upd_same] at hjl
      rw [← Option.some.inj hjl]
      exact ⟨h0, h1, hl⟩
    · rw [upd_other _ _ hj] at hjl
      exact h.rng j l' hjl
end
end Go.Proofs.YtibbmmkjienekaaDoor.Gr
