/- Lemmas of the claim, in their order:
- Regions that draw their order: what is loaded may be taken first though it is written behind; no program in sight.
-/
import Derived.Test.YtijhamllnnilbaaGreatDoorU01
import Derived.OrdersHeld
import Derived.Deep.RegionHeld
set_option linter.unusedVariables false
set_option linter.unusedSimpArgs false
namespace Go.Proofs.YtijhamllnnilbaaGreatDoor.Ra
open Go
section
variable {P : Program} {ops : Array Oper} {Q : Exit → Act → World → Prop} {md : Region.Mode} {S : World → Prop} {m : List Nat}

/-- Whatever comes up next: S holds behind each of m. -/
def wpAnyA (P : Program) (md : Region.Mode) (ops : Array Oper) (Q : Exit → Act → World → Prop) (S : World → Prop) (m : List Nat) : Nat → Array Bool → Act → World → Prop
  | 0, listed, a, w => Region.ready md ops listed = [] ∧ Q .normal a w
  | k + 1, listed, a, w => (Region.ready md ops listed = [] → Q .normal a w) ∧
    ∀ i ∈ Region.ready md ops listed, wpOp P ops Q i (fun a' w' => (m.contains i = true → S w') ∧ wpAnyA P md ops Q S m k (listed.setIfInBounds i true) a' w') a w
theorem wpAny_of_A : ∀ (k : Nat) (listed : Array Bool) (a : Act) (w : World), wpAnyA P md ops Q S m k listed a w → wpAny P md ops Q k listed a w
  | 0, _, _, _, h => h
  | k + 1, _, _, _, h => ⟨h.1, fun i hi => wpOp_mono (fun a' w' h' => wpAny_of_A k _ a' w' h'.2) (h.2 i hi)⟩
/-- Those that wait for number i. -/
def waits (md : Region.Mode) (ops : Array Oper) (i : Nat) : List Nat :=
  (List.range ops.size).foldl (fun acc j => match ops[j]? with
    | some o => if j ≠ i ∧ o.after.any (fun e => Region.binds md e && (e.on == i || acc.contains e.on)) = true then j :: acc else acc
    | none => acc) []
def okK (md : Region.Mode) (ops : Array Oper) (listed : Array Bool) (i : Nat) (m : List Nat) (oi : Oper) (K : List Nat) : Bool :=
  !K.contains i && (List.range ops.size).all (fun j => j == i || match ops[j]? with
    | none => true
    | some oj => if K.contains j = true then !listed.getD j false && oj.after.any (fun e => Region.binds md e && (e.on == i || K.contains e.on)) else listed.getD j true || (m.contains j && oi.apart ops oj)) && K.all (fun j => decide (j < ops.size))
theorem unlisted {listed : Array Bool} {i : Nat} (h : listed.getD i true = false) : listed.getD i false = false := by
  rcases Nat.lt_or_ge i listed.size with h' | h'
  · simp [h'] at h ⊢; exact h
  · simp [Array.getElem?_eq_none h']
theorem wpAnyA_first {i : Nat} {oi : Oper} {v : Value} (hi : ops[i]? = some oi) (hsel : ∀ (j : Nat) (o : Oper) cs b, ops[j]? = some o → o.op ≠ .select cs b)
    (hQ : ∀ c a w, Q (.panic c) (a.put oi.dst v) w → Q (.panic c) a w) (K : List Nat)
    (hK : ∀ j oj, ops[j]? = some oj → j ∈ K → ∃ e ∈ oj.after, Region.binds md e = true ∧ (e.on = i ∨ e.on ∈ K)) :
    ∀ (k : Nat) (listed : Array Bool) (a : Act) (w : World),
      (∀ j oj, ops[j]? = some oj → j ≠ i → j ∉ K → listed.getD j true = false → m.contains j = true ∧ oi.apart ops oj = true) →
      (∀ j, j ∈ K → listed.getD j false = false) →
      i ∈ Region.ready md ops listed → YieldsIf P ops S oi v a → S w →
      wpAnyA P md ops Q S m k (listed.setIfInBounds i true) (a.put oi.dst v) w → wpAnyA P md ops Q S m (k + 1) listed a w := by
  intro k
  induction k with
  | zero =>
    intro listed a w _ _ hr hy hS H
    refine ⟨fun h => (by rw [h] at hr; cases hr), fun j hj => ?_⟩
    by_cases hji : j = i
    · subst hji; exact hy.wpOp hi hS ⟨fun _ => hS, H⟩
    · have := ready_mono hj hji
      rw [H.1] at this
      cases this
  | succ k ih =>
    intro listed a w hfree hun hr hy hS H
    refine ⟨fun h => (by rw [h] at hr; cases hr), fun j hj => ?_⟩
    by_cases hji : j = i
    · subst hji; exact hy.wpOp hi hS ⟨fun _ => hS, H⟩
    · obtain ⟨hjun, oj, hoj, hall⟩ := mem_ready.1 hj
      have hiun := unlisted (mem_ready.1 hr).1
      have hjK : j ∉ K := fun hm => by
        obtain ⟨e, he, hb, h⟩ := hK j oj hoj hm
        have h1 := hall e he hb
        rcases h with h | h
        · rw [h, hiun] at h1; cases h1
        · rw [hun _ h] at h1; cases h1
      obtain ⟨hjm, hap⟩ := hfree j oj hoj hji hjK hjun
      have h1 := H.2 j (ready_mono hj hji)
      have h2 := wpOp_putIf hoj hap (fun cs b => hsel i oi cs b hi) (fun cs b => hsel j oj cs b hoj) hQ hy h1
      refine wpOp_mono (fun a' w' h3 => ⟨fun _ => h3.2.1 hjm, ih (listed.setIfInBounds j true) a' w' (fun q oq hq hqi hqK hqun => ?_) (fun q hq => ?_) (ready_mono hr (Ne.symm hji)) h3.1 (h3.2.1 hjm) ?_⟩) h2
      · refine hfree q oq hq hqi hqK ?_
        by_cases hjq : j = q
        · subst hjq; exact hjun
        · rw [getD_set_ne true hjq] at hqun; exact hqun
      · rw [getD_set_ne false (show j ≠ q from fun h => by subst h; exact hjK hq)]; exact hun q hq
      · rw [Array.setIfInBounds_comm _ _ hji]
        exact h3.2.2
theorem wpAnyA_firstT {i : Nat} {oi : Oper} {v : Value} (hi : ops[i]? = some oi) (hsel : ∀ (j : Nat) (o : Oper) cs b, ops[j]? = some o → o.op ≠ .select cs b)
    (hQ : ∀ c a w, Q (.panic c) (a.put oi.dst v) w → Q (.panic c) a w) :
    ∀ (k : Nat) (listed : Array Bool) (a : Act) (w : World),
      (∀ j oj, ops[j]? = some oj → j ≠ i → listed.getD j true = false → (∀ e ∈ oj.after, Region.binds md e = true → e.on ≠ i) → oi.apart ops oj = true) →
      i ∈ Region.ready md ops listed → YieldsIf P ops (fun _ => True) oi v a → (m.contains i = true → S w) →
      wpAnyA P md ops Q S m k (listed.setIfInBounds i true) (a.put oi.dst v) w → (∀ j, j ≠ i → j ∈ Region.ready md ops listed → m.contains i = true → m.contains j = true) → (m.contains i = true → False) → wpAnyA P md ops Q S m (k + 1) listed a w := by
  intro k
  induction k with
  | zero =>
    intro listed a w _ hr hy hS H _ _
    refine ⟨fun h => (by rw [h] at hr; cases hr), fun j hj => ?_⟩
    by_cases hji : j = i
    · subst hji; exact hy.wpOp hi trivial ⟨hS, H⟩
    · have := ready_mono hj hji
      rw [H.1] at this
      cases this
  | succ k ih =>
    intro listed a w hfree hr hy hS H hm hlate
    refine ⟨fun h => (by rw [h] at hr; cases hr), fun j hj => ?_⟩
    by_cases hji : j = i
    · subst hji; exact hy.wpOp hi trivial ⟨hS, H⟩
    · have h1 := H.2 j (ready_mono hj hji)
      obtain ⟨hjun, oj, hoj, hall⟩ := mem_ready.1 hj
      have hiun := unlisted (mem_ready.1 hr).1
      have hnot : ∀ e ∈ oj.after, Region.binds md e = true → e.on ≠ i := fun e he hb heq => by
        have h1 := hall e he hb
        rw [heq, hiun] at h1
        cases h1
      have h2 := wpOp_putIf hoj (hfree j oj hoj hji hjun hnot) (fun cs b => hsel i oi cs b hi) (fun cs b => hsel j oj cs b hoj) hQ hy h1
      refine wpOp_mono (fun a' w' h3 => ⟨h3.2.1, ih (listed.setIfInBounds j true) a' w' (fun q oq hq hqi hqun hno => ?_) (ready_mono hr (Ne.symm hji)) h3.1 (fun h => absurd h (fun h => hlate h)) ?_ (fun _ _ _ h => absurd h (fun h => hlate h)) hlate⟩) h2
      · refine hfree q oq hq hqi ?_ hno
        by_cases hjq : j = q
        · subst hjq; exact hjun
        · rw [getD_set_ne true hjq] at hqun; exact hqun
      · rw [Array.setIfInBounds_comm _ _ hji]
        exact h3.2.2
theorem okK_spec {listed : Array Bool} {i : Nat} {oi : Oper} {K : List Nat} (h : okK md ops listed i m oi K = true) :
    (∀ j oj, ops[j]? = some oj → j ∈ K → ∃ e ∈ oj.after, Region.binds md e = true ∧ (e.on = i ∨ e.on ∈ K)) ∧
    (∀ j oj, ops[j]? = some oj → j ≠ i → j ∉ K → listed.getD j true = false → m.contains j = true ∧ oi.apart ops oj = true) ∧ (∀ j, j ∈ K → listed.getD j false = false) := by
  simp only [okK, Bool.and_eq_true, Bool.not_eq_true', List.all_eq_true, List.mem_range, decide_eq_true_eq] at h
  obtain ⟨⟨hiK, hall⟩, hlt⟩ := h
  have hin : ∀ j, j ∈ K → K.contains j = true := fun j hj => by simpa using hj
  have hni : i ∉ K := fun hm => by rw [hin i hm] at hiK; cases hiK
  have main : ∀ j oj, ops[j]? = some oj → j ∈ K → listed.getD j false = false ∧ ∃ e ∈ oj.after, Region.binds md e = true ∧ (e.on = i ∨ e.on ∈ K) := fun j oj hj hm => by
    have h1 := hall j (Array.getElem?_eq_some_iff.1 hj).1
    have hne : (j == i) = false := by simp; exact fun e => hni (e ▸ hm)
    rw [hne, hj] at h1
    simp only [Bool.false_or, if_pos (hin j hm), Bool.and_eq_true, Bool.not_eq_true'] at h1
    obtain ⟨h1, h2⟩ := h1
    obtain ⟨e, he, hb⟩ := Array.any_eq_true'.1 h2
    simp only [Bool.and_eq_true, Bool.or_eq_true, beq_iff_eq] at hb
    exact ⟨h1, e, he, hb.1, hb.2.imp id (fun h => by simpa using h)⟩
  refine ⟨fun j oj hj hm => (main j oj hj hm).2, fun j oj hj hne hm hun => ?_, fun j hm => ?_⟩
  · have h1 := hall j (Array.getElem?_eq_some_iff.1 hj).1
    have hne' : (j == i) = false := by simpa using hne
    have hm' : ¬ K.contains j = true := fun h => hm (by simpa using h)
    rw [hne', hj] at h1
    simp only [Bool.false_or, if_neg hm', hun, Bool.and_eq_true, decide_eq_true_eq] at h1
    exact h1
  · have := hlt j hm
    exact (main j _ (Array.getElem?_eq_getElem this) hm).1
/-- One of m, that yields its value in every world that meets S, is taken first: who isn't apart from it waits for it. -/
theorem wpA_take {i : Nat} {oi : Oper} {v : Value} {k : Nat} {listed : Array Bool} {a : Act} {w : World} (hi : ops[i]? = some oi)
    (hs : Region.noSelect ops = true) (hf : okK md ops listed i m oi (waits md ops i) = true) (hr : (Region.ready md ops listed).contains i = true)
    (hQ : ∀ c a w, Q (.panic c) (a.put oi.dst v) w → Q (.panic c) a w) (hy : YieldsIf P ops S oi v a) (hS : S w)
    (h : wpAnyA P md ops Q S m k (listed.setIfInBounds i true) (a.put oi.dst v) w) : wpAnyA P md ops Q S m (k + 1) listed a w := by
  obtain ⟨h1, h2, h3⟩ := okK_spec hf
  exact wpAnyA_first hi (Region.noSelect_spec hs) hQ _ h1 k listed a w h2 h3 (by simpa using hr) hy hS h
/-- One of the others, that yields its value in whatever world. -/
theorem wpA_takeT {i : Nat} {oi : Oper} {v : Value} {k : Nat} {listed : Array Bool} {a : Act} {w : World} (hi : ops[i]? = some oi)
    (hs : Region.noSelect ops = true) (hf : Region.free md ops listed i = true) (hr : (Region.ready md ops listed).contains i = true) (hm : m.contains i = false)
    (hQ : ∀ c a w, Q (.panic c) (a.put oi.dst v) w → Q (.panic c) a w) (hy : YieldsIf P ops (fun _ => True) oi v a)
    (h : wpAnyA P md ops Q S m k (listed.setIfInBounds i true) (a.put oi.dst v) w) : wpAnyA P md ops Q S m (k + 1) listed a w := by
  have hm' : ¬ m.contains i = true := by rw [hm]; decide
  exact wpAnyA_firstT hi (Region.noSelect_spec hs) hQ k listed a w (Region.free_spec hi hf) (by simpa using hr) hy (fun h => absurd h hm') h (fun _ _ _ h => absurd h hm') hm'
def AllReadyA (P : Program) (md : Region.Mode) (ops : Array Oper) (Q : Exit → Act → World → Prop) (S : World → Prop) (m : List Nat) (k : Nat) (listed : Array Bool) (a : Act) (w : World) (rs : List Nat) : Prop :=
  ∀ i ∈ rs, wpOp P ops Q i (fun a' w' => (m.contains i = true → S w') ∧ wpAnyA P md ops Q S m k (listed.setIfInBounds i true) a' w') a w
theorem AllReadyA.nil {k : Nat} {listed : Array Bool} {a : Act} {w : World} : AllReadyA P md ops Q S m k listed a w [] := fun _ h => by cases h
theorem AllReadyA.cons {k : Nat} {listed : Array Bool} {a : Act} {w : World} {i : Nat} {o : Oper} {rs : List Nat} (ho : ops[i]? = some o)
    (h : ∀ K' : Act → World → Prop, Shut (∀ a w, S w → (S w → wpAnyA P md ops Q S m k (listed.setIfInBounds i true) a w) → K' a w) → if Region.wanted o (yielded ops a.tmps) = true then Oper.wp P o a w K' Q else K' (a.put o.dst undef) w)
    (hs : AllReadyA P md ops Q S m k listed a w rs) : AllReadyA P md ops Q S m k listed a w (i :: rs) := fun j hj => by
  rcases List.mem_cons.1 hj with rfl | hj
  · exact wpOp_step ho (fun K' hK => h K' (fun a w hS hW => hK a w ⟨fun _ => hS, hW hS⟩))
  · exact hs j hj
theorem AllReadyA.late {k : Nat} {listed : Array Bool} {a : Act} {w : World} {i : Nat} {o : Oper} {rs : List Nat} (ho : ops[i]? = some o) (hm : m.contains i = false)
    (h : ∀ K' : Act → World → Prop, Shut (∀ a w, True → (True → wpAnyA P md ops Q S m k (listed.setIfInBounds i true) a w) → K' a w) → if Region.wanted o (yielded ops a.tmps) = true then Oper.wp P o a w K' Q else K' (a.put o.dst undef) w)
    (hs : AllReadyA P md ops Q S m k listed a w rs) : AllReadyA P md ops Q S m k listed a w (i :: rs) := fun j hj => by
  rcases List.mem_cons.1 hj with rfl | hj
  · exact wpOp_step ho (fun K' hK => h K' (fun a w hS hW => hK a w ⟨fun h => absurd h (by rw [hm]; decide), hW trivial⟩))
  · exact hs j hj
theorem wpA_ready {rs : List Nat} {k : Nat} {listed : Array Bool} {a : Act} {w : World} (hr : Region.ready md ops listed = rs) (hne : rs ≠ [])
    (h : AllReadyA P md ops Q S m k listed a w rs) : wpAnyA P md ops Q S m (k + 1) listed a w :=
  ⟨fun h0 => absurd (hr ▸ h0) hne, hr ▸ h⟩
theorem wpA_done {listed : Array Bool} {a : Act} {w : World} (hr : Region.ready md ops listed = []) (h : Q .normal a w) : ∀ k, wpAnyA P md ops Q S m k listed a w
  | 0 => ⟨hr, h⟩
  | _ + 1 => ⟨fun _ => h, by rw [hr]; simp⟩
theorem wp_region_A {id : Nat} {a : Act} {w : World} (m : List Nat) (hm : P.follows .mixedOrders = true) (hS : S w.drew)
    (h : S w.drew → wpAnyA P .any ops Q S m ops.size (Array.replicate ops.size false) a w.drew) : (Code.region id ops true).wp P Q a w :=
  wp_region_any hm (wpAny_of_A _ _ _ _ (h hS))
/-- As W and U, where S holds ahead of those in m alone. -/
theorem WA (i : Nat) (v : Value) {oi : Oper} {k : Nat} {listed : Array Bool} {a : Act} {w : World} (hv : ∀ w, S w → (execOp a.eval oi).run P w = .ok (.value v) w) (hS : S w)
    (h : wpAnyA P md ops Q S m k (listed.setIfInBounds i true) (a.put oi.dst v) w) (hi : ops[i]? = some oi := by exact rfl) (hs : Region.noSelect ops = true := by kernel_rfl) (hf : okK md ops listed i m oi (waits md ops i) = true := by kernel_rfl)
    (hr : (Region.ready md ops listed).contains i = true := by kernel_rfl) (hw : Region.wanted oi (yielded ops a.tmps) = true := by kernel_rfl) (hQ : ∀ c a w, Q (.panic c) (a.put oi.dst v) w → Q (.panic c) a w := by exact fun _ _ _ h => h) :
    wpAnyA P md ops Q S m (k + 1) listed a w := wpA_take hi hs hf hr hQ (.inl ⟨hw, hv⟩) hS h
theorem WT (i : Nat) (v : Value) {oi : Oper} {k : Nat} {listed : Array Bool} {a : Act} {w : World} (hv : ∀ w, True → (execOp a.eval oi).run P w = .ok (.value v) w)
    (h : wpAnyA P md ops Q S m k (listed.setIfInBounds i true) (a.put oi.dst v) w) (hi : ops[i]? = some oi := by exact rfl) (hs : Region.noSelect ops = true := by kernel_rfl) (hf : Region.free md ops listed i = true := by kernel_rfl)
    (hr : (Region.ready md ops listed).contains i = true := by kernel_rfl) (hm : m.contains i = false := by exact rfl) (hw : Region.wanted oi (yielded ops a.tmps) = true := by kernel_rfl) (hQ : ∀ c a w, Q (.panic c) (a.put oi.dst v) w → Q (.panic c) a w := by exact fun _ _ _ h => h) :
    wpAnyA P md ops Q S m (k + 1) listed a w := wpA_takeT hi hs hf hr hm hQ (.inl ⟨hw, hv⟩) h
end
end Go.Proofs.YtijhamllnnilbaaGreatDoor.Ra
