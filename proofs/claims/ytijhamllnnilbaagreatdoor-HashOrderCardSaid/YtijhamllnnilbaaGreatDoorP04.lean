/- Lemmas of the claim, in their order:
- Cells by their keys: where a key is, a cell more, a cell less. No program in sight.
- Regions that draw their order: what is loaded may be taken first though it is written behind; no program in sight.
-/
import Derived.Test.YtijhamllnnilbaaGreatDoorP01
import Derived.OrdersHeld
import Derived.Deep.RegionHeld
set_option linter.unusedVariables false
set_option linter.unusedSimpArgs false
namespace Go.Proofs.YtijhamllnnilbaaGreatDoor.Ha
open Go.RowKit Go.Proofs.YtijhamllnnilbaaGreatDoor.Mem Go.Proofs.YtijhamllnnilbaaGreatDoor.Pg Go.Proofs.YtijhamllnnilbaaGreatDoor.Gr
set_option linter.unusedVariables false
set_option linter.unusedSimpArgs false

def Sorted (l : List Cel) : Prop := l.Pairwise (fun a b => a.key < b.key)
def pos (k : List UInt8) (l : List Cel) : Nat := l.countP (fun c => decide (c.key < k))
def has (k : List UInt8) (l : List Cel) : Prop := ∃ c, c ∈ l ∧ c.key = k
def ins (c : Cel) : List Cel → List Cel
 | [] => [c]
 | a :: l => if a.key < c.key then a :: ins c l else if a.key = c.key then c :: l else c :: a :: l
def cutK (k : List UInt8) (l : List Cel) : List Cel := l.filter (fun c => decide (c.key ≠ k))
theorem pos_le (k : List UInt8) (l : List Cel) : pos k l ≤ l.length := List.countP_le_length
theorem pos_cons_lt {k : List UInt8} {a : Cel} {l : List Cel} (h : a.key < k) : pos k (a :: l) = pos k l + 1 := by
 unfold pos; rw [List.countP_cons_of_pos (by simpa using h)]
theorem Sorted.tail {a : Cel} {l : List Cel} (h : Sorted (a :: l)) : Sorted l := (List.pairwise_cons.1 h).2
theorem Sorted.head {a : Cel} {l : List Cel} (h : Sorted (a :: l)) : ∀ c, c ∈ l → a.key < c.key := (List.pairwise_cons.1 h).1
theorem pos_cons_ge {k : List UInt8} {a : Cel} {l : List Cel} (hs : Sorted (a :: l)) (h : ¬ a.key < k) : pos k (a :: l) = 0 := by
 unfold pos
 rw [List.countP_eq_zero]
 intro c hc
 rw [decide_eq_true_eq]
 intro hck
 rcases List.mem_cons.1 hc with e | e
 · subst e; exact h hck
 · exact h (list_lt_trans (hs.head c e) hck)
theorem pos_lt {k : List UInt8} : ∀ {l : List Cel}, Sorted l → ∀ i (h : i < l.length), l[i].key < k ↔ i < pos k l
 | [], _, i, h => by simp at h
 | a :: l, hs, i, h => by
  by_cases ha : a.key < k
  · rw [pos_cons_lt ha]
    rcases i with _ | i
    · simp [ha]
    · simpa using pos_lt hs.tail i (by simpa using h)
  · rw [pos_cons_ge hs ha]
    constructor
    · intro hk
      exfalso
      rcases i with _ | i
      · exact ha hk
      · exact ha (list_lt_trans (hs.head _ (List.getElem_mem (by simpa using h))) hk)
    · intro h; omega
theorem has_iff {k : List UInt8} : ∀ {l : List Cel}, Sorted l → (has k l ↔ ∃ h : pos k l < l.length, (l[pos k l]).key = k)
 | [], _ => by simp [has]
 | a :: l, hs => by
  by_cases ha : a.key < k
  · have h1 := pos_cons_lt (l := l) ha
    have ih := has_iff (k := k) hs.tail
    have hne : a.key ≠ k := fun e => by rw [e] at ha; exact list_lt_irrefl _ ha
    have h2 : has k (a :: l) ↔ has k l := by
     constructor
     · rintro ⟨c, hc, e⟩
       rcases List.mem_cons.1 hc with h | h
       · subst h; exact absurd e hne
       · exact ⟨c, h, e⟩
     · rintro ⟨c, hc, e⟩
       exact ⟨c, List.mem_cons_of_mem _ hc, e⟩
    rw [h2, ih]
    constructor
    · rintro ⟨h, e⟩
      refine ⟨by rw [h1]; simpa using h, ?_⟩
      simp only [h1, List.getElem_cons_succ]
      exact e
    · rintro ⟨h, e⟩
      refine ⟨by rw [h1] at h; simpa using h, ?_⟩
      simp only [h1, List.getElem_cons_succ] at e
      exact e
  · have h1 := pos_cons_ge hs ha
    constructor
    · rintro ⟨c, hc, e⟩
      refine ⟨by rw [h1]; simp, ?_⟩
      simp only [h1, List.getElem_cons_zero]
      rcases List.mem_cons.1 hc with h | h
      · subst h; exact e
      · exact absurd (by rw [← e]; exact hs.head c h) ha
    · rintro ⟨h, e⟩
      simp only [h1, List.getElem_cons_zero] at e
      exact ⟨a, List.mem_cons_self .., e⟩
theorem ins_has {c : Cel} : ∀ {l : List Cel}, Sorted l → has c.key l → ins c l = l.set (pos c.key l) c
 | [], _, h => by obtain ⟨_, h, _⟩ := h; cases h
 | a :: l, hs, h => by
  unfold ins
  by_cases ha : a.key < c.key
  · have hne : a.key ≠ c.key := fun e => by rw [e] at ha; exact list_lt_irrefl _ ha
    have h2 : has c.key l := by
     obtain ⟨x, hx, e⟩ := h
     rcases List.mem_cons.1 hx with h | h
     · subst h; exact absurd e hne
     · exact ⟨x, h, e⟩
    rw [if_pos ha, pos_cons_lt ha, List.set_cons_succ, ins_has hs.tail h2]
  · rw [if_neg ha, pos_cons_ge hs ha, List.set_cons_zero, if_pos]
    obtain ⟨x, hx, e⟩ := h
    rcases List.mem_cons.1 hx with h | h
    · subst h; exact e
    · exact absurd (by rw [← e]; exact hs.head x h) ha
theorem ins_new {c : Cel} : ∀ {l : List Cel}, Sorted l → ¬ has c.key l → ins c l = l.take (pos c.key l) ++ c :: l.drop (pos c.key l)
 | [], _, h => rfl
 | a :: l, hs, h => by
  unfold ins
  have hne : a.key ≠ c.key := fun e => h ⟨a, List.mem_cons_self .., e⟩
  by_cases ha : a.key < c.key
  · rw [if_pos ha, pos_cons_lt ha, ins_new hs.tail (fun ⟨x, hx, e⟩ => h ⟨x, List.mem_cons_of_mem _ hx, e⟩)]
    rfl
  · rw [if_neg ha, if_neg hne, pos_cons_ge hs ha]
    rfl
theorem mem_ins {c x : Cel} : ∀ {l : List Cel}, Sorted l → (x ∈ ins c l ↔ x = c ∨ (x ∈ l ∧ x.key ≠ c.key))
 | [], _ => by simp [ins]
 | a :: l, hs => by
  unfold ins
  by_cases ha : a.key < c.key
  · have hne : a.key ≠ c.key := fun e => by rw [e] at ha; exact list_lt_irrefl _ ha
    rw [if_pos ha, List.mem_cons, mem_ins hs.tail, List.mem_cons]
    constructor
    · rintro (rfl | h | h)
      · exact .inr ⟨.inl rfl, hne⟩
      · exact .inl h
      · exact .inr ⟨.inr h.1, h.2⟩
    · rintro (h | ⟨rfl | h, h2⟩)
      · exact .inr (.inl h)
      · exact .inl rfl
      · exact .inr (.inr ⟨h, h2⟩)
  · rw [if_neg ha]
    have hgt : ∀ y, y ∈ l → y.key ≠ c.key := fun y hy e => ha (by rw [← e]; exact hs.head y hy)
    by_cases he : a.key = c.key
    · rw [if_pos he, List.mem_cons, List.mem_cons]
      constructor
      · rintro (h | h)
        · exact .inl h
        · exact .inr ⟨.inr h, hgt x h⟩
      · rintro (h | ⟨rfl | h, h2⟩)
        · exact .inl h
        · exact absurd he h2
        · exact .inr h
    · rw [if_neg he, List.mem_cons, List.mem_cons]
      constructor
      · rintro (h | rfl | h)
        · exact .inl h
        · exact .inr ⟨.inl rfl, he⟩
        · exact .inr ⟨.inr h, hgt x h⟩
      · rintro (h | ⟨h, h2⟩)
        · exact .inl h
        · exact .inr h
theorem Sorted.ins {c : Cel} : ∀ {l : List Cel}, Sorted l → Sorted (ins c l)
 | [], _ => List.pairwise_singleton _ _
 | a :: l, hs => by
  unfold Ha.ins
  by_cases ha : a.key < c.key
  · rw [if_pos ha]
    refine List.pairwise_cons.2 ⟨fun x hx => ?_, hs.tail.ins⟩
    rcases (mem_ins hs.tail).1 hx with rfl | ⟨h, _⟩
    · exact ha
    · exact hs.head x h
  · rw [if_neg ha]
    by_cases he : a.key = c.key
    · rw [if_pos he]
      exact List.pairwise_cons.2 ⟨fun x hx => by rw [← he]; exact hs.head x hx, hs.tail⟩
    · rw [if_neg he]
      have hca := list_lt_total ha he
      refine List.pairwise_cons.2 ⟨fun x hx => ?_, hs⟩
      rcases List.mem_cons.1 hx with rfl | h
      · exact hca
      · exact list_lt_trans hca (hs.head x h)
theorem cut_has {k : List UInt8} : ∀ {l : List Cel}, Sorted l → has k l → cutK k l = l.eraseIdx (pos k l)
 | [], _, h => by obtain ⟨_, h, _⟩ := h; cases h
 | a :: l, hs, h => by
  unfold cutK
  by_cases ha : a.key < k
  · have hne : a.key ≠ k := fun e => by rw [e] at ha; exact list_lt_irrefl _ ha
    have h2 : has k l := by
     obtain ⟨x, hx, e⟩ := h
     rcases List.mem_cons.1 hx with h | h
     · subst h; exact absurd e hne
     · exact ⟨x, h, e⟩
    rw [List.filter_cons_of_pos (by simpa using hne), pos_cons_lt ha, List.eraseIdx_cons_succ]
    exact congrArg _ (cut_has hs.tail h2)
  · have he : a.key = k := by
     obtain ⟨x, hx, e⟩ := h
     rcases List.mem_cons.1 hx with h | h
     · subst h; exact e
     · exact absurd (by rw [← e]; exact hs.head x h) ha
    rw [List.filter_cons_of_neg (by simpa using he), pos_cons_ge hs ha, List.eraseIdx_cons_zero]
    refine List.filter_eq_self.2 fun x hx => ?_
    have := hs.head x hx
    simp only [ne_eq, decide_eq_true_eq]
    intro e
    rw [he, e] at this
    exact list_lt_irrefl _ this
theorem cut_none {k : List UInt8} {l : List Cel} (h : ¬ has k l) : cutK k l = l :=
 List.filter_eq_self.2 fun x hx => by
  simp only [ne_eq, decide_eq_true_eq]
  exact fun e => h ⟨x, hx, e⟩
theorem Sorted.cut {k : List UInt8} {l : List Cel} (h : Sorted l) : Sorted (cutK k l) := List.Pairwise.filter _ h
theorem mem_cut {k : List UInt8} {l : List Cel} {x : Cel} : x ∈ cutK k l ↔ x ∈ l ∧ x.key ≠ k := by
 unfold cutK
 rw [List.mem_filter]
 simp
theorem szs_cut_le (k : List UInt8) (l : List Cel) : szs (cutK k l) ≤ szs l := by
 induction l with
 | nil => exact Nat.le_refl _
 | cons a l ih =>
  unfold cutK at ih ⊢
  by_cases h : a.key = k
  · rw [List.filter_cons_of_neg (by simpa using h)]
    simp [szs] at ih ⊢; omega
  · rw [List.filter_cons_of_pos (by simpa using h)]
    simp [szs] at ih ⊢; omega
theorem Fits.sorted {l : List Cel} (h : Fits l) : Sorted l := h.lt
theorem Fits.cut {l : List Cel} (h : Fits l) (k : List UInt8) : Fits (cutK k l) :=
 ⟨fun c hc => h.ok c (mem_cut.1 hc).1, h.sorted.cut, Nat.le_trans (szs_cut_le k l) h.room⟩
theorem Fits.ins {l : List Cel} {c : Cel} (h : Fits l) (hc : c.ok) (hr : szs (Ha.ins c l) ≤ 239) : Fits (Ha.ins c l) :=
 ⟨fun x hx => by
  rcases (mem_ins h.sorted).1 hx with rfl | ⟨h1, _⟩
  · exact hc
  · exact h.ok x h1, h.sorted.ins, hr⟩
end Go.Proofs.YtijhamllnnilbaaGreatDoor.Ha
namespace Go.Proofs.YtijhamllnnilbaaGreatDoor.Ra
open Go
section
variable {P : Program} {ops : Array Oper} {Q : Exit → Act → World → Prop} {md : Region.Mode} {S : World → Prop} {m : List Nat}

def wpAnyA (P : Program) (md : Region.Mode) (ops : Array Oper) (Q : Exit → Act → World → Prop) (S : World → Prop) (m : List Nat) : Nat → Array Bool → Act → World → Prop
 | 0, listed, a, w => Region.ready md ops listed = [] ∧ Q .normal a w
 | k + 1, listed, a, w => (Region.ready md ops listed = [] → Q .normal a w) ∧
  ∀ i ∈ Region.ready md ops listed, wpOp P ops Q i (fun a' w' => (m.contains i = true → S w') ∧ wpAnyA P md ops Q S m k (listed.setIfInBounds i true) a' w') a w
theorem wpAny_of_A : ∀ (k : Nat) (listed : Array Bool) (a : Act) (w : World), wpAnyA P md ops Q S m k listed a w → wpAny P md ops Q k listed a w
 | 0, _, _, _, h => h
 | k + 1, _, _, _, h => ⟨h.1, fun i hi => wpOp_mono (fun a' w' h' => wpAny_of_A k _ a' w' h'.2) (h.2 i hi)⟩
def waits (md : Region.Mode) (ops : Array Oper) (i : Nat) : List Nat :=
 (List.range ops.size).foldl (fun acc j => match ops[j]? with
  | some o => if j ≠ i ∧ o.after.any (fun e => Region.binds md e && (e.on == i || acc.contains e.on)) = true then j :: acc else acc
  | none => acc) []
def okK (md : Region.Mode) (ops : Array Oper) (listed : Array Bool) (i : Nat) (m : List Nat) (oi : Oper) (K : List Nat) : Bool :=
 !K.contains i && (List.range ops.size).all (fun j => j == i || match ops[j]? with
  | none => true
  | some oj => if K.contains j = true then !listed.getD j false && oj.after.any (fun e => Region.binds md e && (e.on == i || K.contains e.on)) else listed.getD j true || (m.contains j && oi.apart ops oj)) && K.all (fun j => decide (j < ops.size))
theorem unlisted {listed : Array Bool} {i : Nat} (h : listed.getD i true = false) : listed.getD i false = false := by
 rcases Nat.lt_or_ge i listed.size with h' | h'
 · simp [h'] at h ⊢; exact h
 · simp [Array.getElem?_eq_none h']
theorem wpAnyA_first {i : Nat} {oi : Oper} {v : Value} (hi : ops[i]? = some oi) (hsel : ∀ (j : Nat) (o : Oper) cs b, ops[j]? = some o → o.op ≠ .select cs b)
 (hQ : ∀ c a w, Q (.panic c) (a.put oi.dst v) w → Q (.panic c) a w) (K : List Nat)
 (hK : ∀ j oj, ops[j]? = some oj → j ∈ K → ∃ e ∈ oj.after, Region.binds md e = true ∧ (e.on = i ∨ e.on ∈ K)) :
 ∀ (k : Nat) (listed : Array Bool) (a : Act) (w : World),
  (∀ j oj, ops[j]? = some oj → j ≠ i → j ∉ K → listed.getD j true = false → m.contains j = true ∧ oi.apart ops oj = true) →
  (∀ j, j ∈ K → listed.getD j false = false) →
  i ∈ Region.ready md ops listed → YieldsIf P ops S oi v a → S w →
  wpAnyA P md ops Q S m k (listed.setIfInBounds i true) (a.put oi.dst v) w → wpAnyA P md ops Q S m (k + 1) listed a w := by
 intro k
 induction k with
 | zero =>
  intro listed a w _ _ hr hy hS H
  refine ⟨fun h => (by rw [h] at hr; cases hr), fun j hj => ?_⟩
  by_cases hji : j = i
  · subst hji; exact hy.wpOp hi hS ⟨fun _ => hS, H⟩
  · have := ready_mono hj hji
    rw [H.1] at this
    cases this
 | succ k ih =>
  intro listed a w hfree hun hr hy hS H
  refine ⟨fun h => (by rw [h] at hr; cases hr), fun j hj => ?_⟩
  by_cases hji : j = i
  · subst hji; exact hy.wpOp hi hS ⟨fun _ => hS, H⟩
  · obtain ⟨hjun, oj, hoj, hall⟩ := mem_ready.1 hj
    have hiun := unlisted (mem_ready.1 hr).1
    have hjK : j ∉ K := fun hm => by
     obtain ⟨e, he, hb, h⟩ := hK j oj hoj hm
     have h1 := hall e he hb
     rcases h with h | h
     · rw [h, hiun] at h1; cases h1
     · rw [hun _ h] at h1; cases h1
    obtain ⟨hjm, hap⟩ := hfree j oj hoj hji hjK hjun
    have h1 := H.2 j (ready_mono hj hji)
    have h2 := wpOp_putIf hoj hap (fun cs b => hsel i oi cs b hi) (fun cs b => hsel j oj cs b hoj) hQ hy h1
    refine wpOp_mono (fun a' w' h3 => ⟨fun _ => h3.2.1 hjm, ih (listed.setIfInBounds j true) a' w' (fun q oq hq hqi hqK hqun => ?_) (fun q hq => ?_) (ready_mono hr (Ne.symm hji)) h3.1 (h3.2.1 hjm) ?_⟩) h2
    · refine hfree q oq hq hqi hqK ?_
      by_cases hjq : j = q
      · subst hjq; exact hjun
      · rw [getD_set_ne true hjq] at hqun; exact hqun
    · rw [getD_set_ne false (show j ≠ q from fun h => by subst h; exact hjK hq)]; exact hun q hq
    · rw [Array.setIfInBounds_comm _ _ hji]
      exact h3.2.2
theorem wpAnyA_firstT {i : Nat} {oi : Oper} {v : Value} (hi : ops[i]? = some oi) (hsel : ∀ (j : Nat) (o : Oper) cs b, ops[j]? = some o → o.op ≠ .select cs b)
 (hQ : ∀ c a w, Q (.panic c) (a.put oi.dst v) w → Q (.panic c) a w) :
 ∀ (k : Nat) (listed : Array Bool) (a : Act) (w : World),
  (∀ j oj, ops[j]? = some oj → j ≠ i → listed.getD j true = false → (∀ e ∈ oj.after, Region.binds md e = true → e.on ≠ i) → oi.apart ops oj = true) →
  i ∈ Region.ready md ops listed → YieldsIf P ops (fun _ => True) oi v a → (m.contains i = true → S w) →
  wpAnyA P md ops Q S m k (listed.setIfInBounds i true) (a.put oi.dst v) w → (∀ j, j ≠ i → j ∈ Region.ready md ops listed → m.contains i = true → m.contains j = true) → (m.contains i = true → False) → wpAnyA P md ops Q S m (k + 1) listed a w := by
 intro k
 induction k with
 | zero =>
  intro listed a w _ hr hy hS H _ _
  refine ⟨fun h => (by rw [h] at hr; cases hr), fun j hj => ?_⟩
  by_cases hji : j = i
  · subst hji; exact hy.wpOp hi trivial ⟨hS, H⟩
  · have := ready_mono hj hji
    rw [H.1] at this
    cases this
 | succ k ih =>
  intro listed a w hfree hr hy hS H hm hlate
  refine ⟨fun h => (by rw [h] at hr; cases hr), fun j hj => ?_⟩
  by_cases hji : j = i
  · subst hji; exact hy.wpOp hi trivial ⟨hS, H⟩
  · have h1 := H.2 j (ready_mono hj hji)
    obtain ⟨hjun, oj, hoj, hall⟩ := mem_ready.1 hj
    have hiun := unlisted (mem_ready.1 hr).1
    have hnot : ∀ e ∈ oj.after, Region.binds md e = true → e.on ≠ i := fun e he hb heq => by
     have h1 := hall e he hb
     rw [heq, hiun] at h1
     cases h1
    have h2 := wpOp_putIf hoj (hfree j oj hoj hji hjun hnot) (fun cs b => hsel i oi cs b hi) (fun cs b => hsel j oj cs b hoj) hQ hy h1
    refine wpOp_mono (fun a' w' h3 => ⟨h3.2.1, ih (listed.setIfInBounds j true) a' w' (fun q oq hq hqi hqun hno => ?_) (ready_mono hr (Ne.symm hji)) h3.1 (fun h => absurd h (fun h => hlate h)) ?_ (fun _ _ _ h => absurd h (fun h => hlate h)) hlate⟩) h2
    · refine hfree q oq hq hqi ?_ hno
      by_cases hjq : j = q
      · subst hjq; exact hjun
      · rw [getD_set_ne true hjq] at hqun; exact hqun
    · rw [Array.setIfInBounds_comm _ _ hji]
      exact h3.2.2
theorem okK_spec {listed : Array Bool} {i : Nat} {oi : Oper} {K : List Nat} (h : okK md ops listed i m oi K = true) :
 (∀ j oj, ops[j]? = some oj → j ∈ K → ∃ e ∈ oj.after, Region.binds md e = true ∧ (e.on = i ∨ e.on ∈ K)) ∧
 (∀ j oj, ops[j]? = some oj → j ≠ i → j ∉ K → listed.getD j true = false → m.contains j = true ∧ oi.apart ops oj = true) ∧ (∀ j, j ∈ K → listed.getD j false = false) := by
 simp only [okK, Bool.and_eq_true, Bool.not_eq_true', List.all_eq_true, List.mem_range, decide_eq_true_eq] at h
 obtain ⟨⟨hiK, hall⟩, hlt⟩ := h
 have hin : ∀ j, j ∈ K → K.contains j = true := fun j hj => by simpa using hj
 have hni : i ∉ K := fun hm => by rw [hin i hm] at hiK; cases hiK
 have main : ∀ j oj, ops[j]? = some oj → j ∈ K → listed.getD j false = false ∧ ∃ e ∈ oj.after, Region.binds md e = true ∧ (e.on = i ∨ e.on ∈ K) := fun j oj hj hm => by
  have h1 := hall j (Array.getElem?_eq_some_iff.1 hj).1
  have hne : (j == i) = false := by simp; exact fun e => hni (e ▸ hm)
  rw [hne, hj] at h1
  simp only [Bool.false_or, if_pos (hin j hm), Bool.and_eq_true, Bool.not_eq_true'] at h1
  obtain ⟨h1, h2⟩ := h1
  obtain ⟨e, he, hb⟩ := Array.any_eq_true'.1 h2
  simp only [Bool.and_eq_true, Bool.or_eq_true, beq_iff_eq] at hb
  exact ⟨h1, e, he, hb.1, hb.2.imp id (fun h => by simpa using h)⟩
 refine ⟨fun j oj hj hm => (main j oj hj hm).2, fun j oj hj hne hm hun => ?_, fun j hm => ?_⟩
 · have h1 := hall j (Array.getElem?_eq_some_iff.1 hj).1
   have hne' : (j == i) = false := by simpa using hne
   have hm' : ¬ K.contains j = true := fun h => hm (by simpa using h)
   rw [hne', hj] at h1
   simp only [Bool.false_or, if_neg hm', hun, Bool.and_eq_true, decide_eq_true_eq] at h1
   exact h1
 · have := hlt j hm
   exact (main j _ (Array.getElem?_eq_getElem this) hm).1
theorem wpA_take {i : Nat} {oi : Oper} {v : Value} {k : Nat} {listed : Array Bool} {a : Act} {w : World} (hi : ops[i]? = some oi)
 (hs : Region.noSelect ops = true) (hf : okK md ops listed i m oi (waits md ops i) = true) (hr : (Region.ready md ops listed).contains i = true)
 (hQ : ∀ c a w, Q (.panic c) (a.put oi.dst v) w → Q (.panic c) a w) (hy : YieldsIf P ops S oi v a) (hS : S w)
 (h : wpAnyA P md ops Q S m k (listed.setIfInBounds i true) (a.put oi.dst v) w) : wpAnyA P md ops Q S m (k + 1) listed a w := by
 obtain ⟨h1, h2, h3⟩ := okK_spec hf
 exact wpAnyA_first hi (Region.noSelect_spec hs) hQ _ h1 k listed a w h2 h3 (by simpa using hr) hy hS h
theorem wpA_takeT {i : Nat} {oi : Oper} {v : Value} {k : Nat} {listed : Array Bool} {a : Act} {w : World} (hi : ops[i]? = some oi)
 (hs : Region.noSelect ops = true) (hf : Region.free md ops listed i = true) (hr : (Region.ready md ops listed).contains i = true) (hm : m.contains i = false)
 (hQ : ∀ c a w, Q (.panic c) (a.put oi.dst v) w → Q (.panic c) a w) (hy : YieldsIf P ops (fun _ => True) oi v a)
 (h : wpAnyA P md ops Q S m k (listed.setIfInBounds i true) (a.put oi.dst v) w) : wpAnyA P md ops Q S m (k + 1) listed a w := by
 have hm' : ¬ m.contains i = true := by rw [hm]; decide
 exact wpAnyA_firstT hi (Region.noSelect_spec hs) hQ k listed a w (Region.free_spec hi hf) (by simpa using hr) hy (fun h => absurd h hm') h (fun _ _ _ h => absurd h hm') hm'
def AllReadyA (P : Program) (md : Region.Mode) (ops : Array Oper) (Q : Exit → Act → World → Prop) (S : World → Prop) (m : List Nat) (k : Nat) (listed : Array Bool) (a : Act) (w : World) (rs : List Nat) : Prop :=
 ∀ i ∈ rs, wpOp P ops Q i (fun a' w' => (m.contains i = true → S w') ∧ wpAnyA P md ops Q S m k (listed.setIfInBounds i true) a' w') a w
theorem AllReadyA.nil {k : Nat} {listed : Array Bool} {a : Act} {w : World} : AllReadyA P md ops Q S m k listed a w [] := fun _ h => by cases h
theorem AllReadyA.cons {k : Nat} {listed : Array Bool} {a : Act} {w : World} {i : Nat} {o : Oper} {rs : List Nat} (ho : ops[i]? = some o)
 (h : ∀ K' : Act → World → Prop, Shut (∀ a w, S w → (S w → wpAnyA P md ops Q S m k (listed.setIfInBounds i true) a w) → K' a w) → if Region.wanted o (yielded ops a.tmps) = true then Oper.wp P o a w K' Q else K' (a.put o.dst undef) w)
 (hs : AllReadyA P md ops Q S m k listed a w rs) : AllReadyA P md ops Q S m k listed a w (i :: rs) := fun j hj => by
 rcases List.mem_cons.1 hj with rfl | hj
 · exact wpOp_step ho (fun K' hK => h K' (fun a w hS hW => hK a w ⟨fun _ => hS, hW hS⟩))
 · exact hs j hj
theorem AllReadyA.late {k : Nat} {listed : Array Bool} {a : Act} {w : World} {i : Nat} {o : Oper} {rs : List Nat} (ho : ops[i]? = some o) (hm : m.contains i = false)
 (h : ∀ K' : Act → World → Prop, Shut (∀ a w, True → (True → wpAnyA P md ops Q S m k (listed.setIfInBounds i true) a w) → K' a w) → if Region.wanted o (yielded ops a.tmps) = true then Oper.wp P o a w K' Q else K' (a.put o.dst undef) w)
 (hs : AllReadyA P md ops Q S m k listed a w rs) : AllReadyA P md ops Q S m k listed a w (i :: rs) := fun j hj => by
 rcases List.mem_cons.1 hj with rfl | hj
 · exact wpOp_step ho (fun K' hK => h K' (fun a w hS hW => hK a w ⟨fun h => absurd h (by rw [hm]; decide), hW trivial⟩))
 · exact hs j hj
theorem wpA_ready {rs : List Nat} {k : Nat} {listed : Array Bool} {a : Act} {w : World} (hr : Region.ready md ops listed = rs) (hne : rs ≠ [])
 (h : AllReadyA P md ops Q S m k listed a w rs) : wpAnyA P md ops Q S m (k + 1) listed a w :=
 ⟨fun h0 => absurd (hr ▸ h0) hne, hr ▸ h⟩
theorem wpA_done {listed : Array Bool} {a : Act} {w : World} (hr : Region.ready md ops listed = []) (h : Q .normal a w) : ∀ k, wpAnyA P md ops Q S m k listed a w
 | 0 => ⟨hr, h⟩
 | _ + 1 => ⟨fun _ => h, by rw [hr]; simp⟩
theorem wp_region_A {id : Nat} {a : Act} {w : World} (m : List Nat) (hm : P.follows .mixedOrders = true) (hS : S w.drew)
 (h : S w.drew → wpAnyA P .any ops Q S m ops.size (Array.replicate ops.size false) a w.drew) : (Code.region id ops true).wp P Q a w :=
 wp_region_any hm (wpAny_of_A _ _ _ _ (h hS))
theorem WA (i : Nat) (v : Value) {oi : Oper} {k : Nat} {listed : Array Bool} {a : Act} {w : World} (hv : ∀ w, S w → (execOp a.eval oi).run P w = .ok (.value v) w) (hS : S w)
 (h : wpAnyA P md ops Q S m k (listed.setIfInBounds i true) (a.put oi.dst v) w) (hi : ops[i]? = some oi := by exact rfl) (hs : Region.noSelect ops = true := by kernel_rfl) (hf : okK md ops listed i m oi (waits md ops i) = true := by kernel_rfl)
 (hr : (Region.ready md ops listed).contains i = true := by kernel_rfl) (hw : Region.wanted oi (yielded ops a.tmps) = true := by kernel_rfl) (hQ : ∀ c a w, Q (.panic c) (a.put oi.dst v) w → Q (.panic c) a w := by exact fun _ _ _ h => h) :
 wpAnyA P md ops Q S m (k + 1) listed a w := wpA_take hi hs hf hr hQ (.inl ⟨hw, hv⟩) hS h
theorem WT (i : Nat) (v : Value) {oi : Oper} {k : Nat} {listed : Array Bool} {a : Act} {w : World} (hv : ∀ w, True → (execOp a.eval oi).run P w = .ok (.value v) w)
 (h : wpAnyA P md ops Q S m k (listed.setIfInBounds i true) (a.put oi.dst v) w) (hi : ops[i]? = some oi := by exact rfl) (hs : Region.noSelect ops = true := by kernel_rfl) (hf : Region.free md ops listed i = true := by kernel_rfl)
 (hr : (Region.ready md ops listed).contains i = true := by kernel_rfl) (hm : m.contains i = false := by exact rfl) (hw : Region.wanted oi (yielded ops a.tmps) = true := by kernel_rfl) (hQ : ∀ c a w, Q (.panic c) (a.put oi.dst v) w → Q (.panic c) a w := by exact fun _ _ _ h => h) :
 wpAnyA P md ops Q S m (k + 1) listed a w := wpA_takeT hi hs hf hr hm hQ (.inl ⟨hw, hv⟩) h
end
end Go.Proofs.YtijhamllnnilbaaGreatDoor.Ra
