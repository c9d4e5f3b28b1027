/- Lemmas of the claim, in their order:
- Regions that draw their order: what is loaded may be taken first though it is written behind; no program in sight.
- The contract of blob.Get.
-/
import Derived.Test.YtijhamllnnilbaaGreatDoorQ01
import Derived.OrdersHeld
import Derived.Deep.RegionHeld
import Derived.Test.YtijhamllnnilbaaGreatDoorQ18
import Derived.Lib.TrimByte
import Derived.Lib.OthersKept
set_option linter.unusedVariables false
set_option linter.unusedSimpArgs false
namespace Go.Proofs.YtijhamllnnilbaaGreatDoor.Ra
open Go
section
variable {P : Program} {ops : Array Oper} {Q : Exit → Act → World → Prop} {md : Region.Mode} {S : World → Prop} {m : List Nat}

def wpAnyA (P : Program) (md : Region.Mode) (ops : Array Oper) (Q : Exit → Act → World → Prop) (S : World → Prop) (m : List Nat) : Nat → Array Bool → Act → World → Prop
 | 0, listed, a, w => Region.ready md ops listed = [] ∧ Q .normal a w
 | k + 1, listed, a, w => (Region.ready md ops listed = [] → Q .normal a w) ∧
  ∀ i ∈ Region.ready md ops listed, wpOp P ops Q i (fun a' w' => (m.contains i = true → S w') ∧ wpAnyA P md ops Q S m k (listed.setIfInBounds i true) a' w') a w
theorem wpAny_of_A : ∀ (k : Nat) (listed : Array Bool) (a : Act) (w : World), wpAnyA P md ops Q S m k listed a w → wpAny P md ops Q k listed a w
 | 0, _, _, _, h => h
 | k + 1, _, _, _, h => ⟨h.1, fun i hi => wpOp_mono (fun a' w' h' => wpAny_of_A k _ a' w' h'.2) (h.2 i hi)⟩
def waits (md : Region.Mode) (ops : Array Oper) (i : Nat) : List Nat :=
 (List.range ops.size).foldl (fun acc j => match ops[j]? with
  | some o => if j ≠ i ∧ o.after.any (fun e => Region.binds md e && (e.on == i || acc.contains e.on)) = true then j :: acc else acc
  | none => acc) []
def okK (md : Region.Mode) (ops : Array Oper) (listed : Array Bool) (i : Nat) (m : List Nat) (oi : Oper) (K : List Nat) : Bool :=
 !K.contains i && (List.range ops.size).all (fun j => j == i || match ops[j]? with
  | none => true
  | some oj => if K.contains j = true then !listed.getD j false && oj.after.any (fun e => Region.binds md e && (e.on == i || K.contains e.on)) else listed.getD j true || (m.contains j && oi.apart ops oj)) && K.all (fun j => decide (j < ops.size))
theorem unlisted {listed : Array Bool} {i : Nat} (h : listed.getD i true = false) : listed.getD i false = false := by
 rcases Nat.lt_or_ge i listed.size with h' | h'
 · simp [h'] at h ⊢; exact h
 · simp [Array.getElem?_eq_none h']
theorem wpAnyA_first {i : Nat} {oi : Oper} {v : Value} (hi : ops[i]? = some oi) (hsel : ∀ (j : Nat) (o : Oper) cs b, ops[j]? = some o → o.op ≠ .select cs b)
 (hQ : ∀ c a w, Q (.panic c) (a.put oi.dst v) w → Q (.panic c) a w) (K : List Nat)
 (hK : ∀ j oj, ops[j]? = some oj → j ∈ K → ∃ e ∈ oj.after, Region.binds md e = true ∧ (e.on = i ∨ e.on ∈ K)) :
 ∀ (k : Nat) (listed : Array Bool) (a : Act) (w : World),
  (∀ j oj, ops[j]? = some oj → j ≠ i → j ∉ K → listed.getD j true = false → m.contains j = true ∧ oi.apart ops oj = true) →
  (∀ j, j ∈ K → listed.getD j false = false) →
  i ∈ Region.ready md ops listed → YieldsIf P ops S oi v a → S w →
  wpAnyA P md ops Q S m k (listed.setIfInBounds i true) (a.put oi.dst v) w → wpAnyA P md ops Q S m (k + 1) listed a w := by
 intro k
 induction k with
 | zero =>
  intro listed a w _ _ hr hy hS H
  refine ⟨fun h => (by rw [h] at hr; cases hr), fun j hj => ?_⟩
  by_cases hji : j = i
  · subst hji; exact hy.wpOp hi hS ⟨fun _ => hS, H⟩
  · have := ready_mono hj hji
    rw [H.1] at this
    cases this
 | succ k ih =>
  intro listed a w hfree hun hr hy hS H
  refine ⟨fun h => (by rw [h] at hr; cases hr), fun j hj => ?_⟩
  by_cases hji : j = i
  · subst hji; exact hy.wpOp hi hS ⟨fun _ => hS, H⟩
  · obtain ⟨hjun, oj, hoj, hall⟩ := mem_ready.1 hj
    have hiun := unlisted (mem_ready.1 hr).1
    have hjK : j ∉ K := fun hm => by
     obtain ⟨e, he, hb, h⟩ := hK j oj hoj hm
     have h1 := hall e he hb
     rcases h with h | h
     · rw [h, hiun] at h1; cases h1
     · rw [hun _ h] at h1; cases h1
    obtain ⟨hjm, hap⟩ := hfree j oj hoj hji hjK hjun
    have h1 := H.2 j (ready_mono hj hji)
    have h2 := wpOp_putIf hoj hap (fun cs b => hsel i oi cs b hi) (fun cs b => hsel j oj cs b hoj) hQ hy h1
    refine wpOp_mono (fun a' w' h3 => ⟨fun _ => h3.2.1 hjm, ih (listed.setIfInBounds j true) a' w' (fun q oq hq hqi hqK hqun => ?_) (fun q hq => ?_) (ready_mono hr (Ne.symm hji)) h3.1 (h3.2.1 hjm) ?_⟩) h2
    · refine hfree q oq hq hqi hqK ?_
      by_cases hjq : j = q
      · subst hjq; exact hjun
      · rw [getD_set_ne true hjq] at hqun; exact hqun
    · rw [getD_set_ne false (show j ≠ q from fun h => by subst h; exact hjK hq)]; exact hun q hq
    · rw [Array.setIfInBounds_comm _ _ hji]
      exact h3.2.2
theorem wpAnyA_firstT {i : Nat} {oi : Oper} {v : Value} (hi : ops[i]? = some oi) (hsel : ∀ (j : Nat) (o : Oper) cs b, ops[j]? = some o → o.op ≠ .select cs b)
 (hQ : ∀ c a w, Q (.panic c) (a.put oi.dst v) w → Q (.panic c) a w) :
 ∀ (k : Nat) (listed : Array Bool) (a : Act) (w : World),
  (∀ j oj, ops[j]? = some oj → j ≠ i → listed.getD j true = false → (∀ e ∈ oj.after, Region.binds md e = true → e.on ≠ i) → oi.apart ops oj = true) →
  i ∈ Region.ready md ops listed → YieldsIf P ops (fun _ => True) oi v a → (m.contains i = true → S w) →
  wpAnyA P md ops Q S m k (listed.setIfInBounds i true) (a.put oi.dst v) w → (∀ j, j ≠ i → j ∈ Region.ready md ops listed → m.contains i = true → m.contains j = true) → (m.contains i = true → False) → wpAnyA P md ops Q S m (k + 1) listed a w := by
 intro k
 induction k with
 | zero =>
  intro listed a w _ hr hy hS H _ _
  refine ⟨fun h => (by rw [h] at hr; cases hr), fun j hj => ?_⟩
  by_cases hji : j = i
  · subst hji; exact hy.wpOp hi trivial ⟨hS, H⟩
  · have := ready_mono hj hji
    rw [H.1] at this
    cases this
 | succ k ih =>
  intro listed a w hfree hr hy hS H hm hlate
  refine ⟨fun h => (by rw [h] at hr; cases hr), fun j hj => ?_⟩
  by_cases hji : j = i
  · subst hji; exact hy.wpOp hi trivial ⟨hS, H⟩
  · have h1 := H.2 j (ready_mono hj hji)
    obtain ⟨hjun, oj, hoj, hall⟩ := mem_ready.1 hj
    have hiun := unlisted (mem_ready.1 hr).1
    have hnot : ∀ e ∈ oj.after, Region.binds md e = true → e.on ≠ i := fun e he hb heq => by
     have h1 := hall e he hb
     rw [heq, hiun] at h1
     cases h1
    have h2 := wpOp_putIf hoj (hfree j oj hoj hji hjun hnot) (fun cs b => hsel i oi cs b hi) (fun cs b => hsel j oj cs b hoj) hQ hy h1
    refine wpOp_mono (fun a' w' h3 => ⟨h3.2.1, ih (listed.setIfInBounds j true) a' w' (fun q oq hq hqi hqun hno => ?_) (ready_mono hr (Ne.symm hji)) h3.1 (fun h => absurd h (fun h => hlate h)) ?_ (fun _ _ _ h => absurd h (fun h => hlate h)) hlate⟩) h2
    · refine hfree q oq hq hqi ?_ hno
      by_cases hjq : j = q
      · subst hjq; exact hjun
      · rw [getD_set_ne true hjq] at hqun; exact hqun
    · rw [Array.setIfInBounds_comm _ _ hji]
      exact h3.2.2
theorem okK_spec {listed : Array Bool} {i : Nat} {oi : Oper} {K : List Nat} (h : okK md ops listed i m oi K = true) :
 (∀ j oj, ops[j]? = some oj → j ∈ K → ∃ e ∈ oj.after, Region.binds md e = true ∧ (e.on = i ∨ e.on ∈ K)) ∧
 (∀ j oj, ops[j]? = some oj → j ≠ i → j ∉ K → listed.getD j true = false → m.contains j = true ∧ oi.apart ops oj = true) ∧ (∀ j, j ∈ K → listed.getD j false = false) := by
 simp only [okK, Bool.and_eq_true, Bool.not_eq_true', List.all_eq_true, List.mem_range, decide_eq_true_eq] at h
 obtain ⟨⟨hiK, hall⟩, hlt⟩ := h
 have hin : ∀ j, j ∈ K → K.contains j = true := fun j hj => by simpa using hj
 have hni : i ∉ K := fun hm => by rw [hin i hm] at hiK; cases hiK
 have main : ∀ j oj, ops[j]? = some oj → j ∈ K → listed.getD j false = false ∧ ∃ e ∈ oj.after, Region.binds md e = true ∧ (e.on = i ∨ e.on ∈ K) := fun j oj hj hm => by
  have h1 := hall j (Array.getElem?_eq_some_iff.1 hj).1
  have hne : (j == i) = false := by simp; exact fun e => hni (e ▸ hm)
  rw [hne, hj] at h1
  simp only [Bool.false_or, if_pos (hin j hm), Bool.and_eq_true, Bool.not_eq_true'] at h1
  obtain ⟨h1, h2⟩ := h1
  obtain ⟨e, he, hb⟩ := Array.any_eq_true'.1 h2
  simp only [Bool.and_eq_true, Bool.or_eq_true, beq_iff_eq] at hb
  exact ⟨h1, e, he, hb.1, hb.2.imp id (fun h => by simpa using h)⟩
 refine ⟨fun j oj hj hm => (main j oj hj hm).2, fun j oj hj hne hm hun => ?_, fun j hm => ?_⟩
 · have h1 := hall j (Array.getElem?_eq_some_iff.1 hj).1
   have hne' : (j == i) = false := by simpa using hne
   have hm' : ¬ K.contains j = true := fun h => hm (by simpa using h)
   rw [hne', hj] at h1
   simp only [Bool.false_or, if_neg hm', hun, Bool.and_eq_true, decide_eq_true_eq] at h1
   exact h1
 · have := hlt j hm
   exact (main j _ (Array.getElem?_eq_getElem this) hm).1
theorem wpA_take {i : Nat} {oi : Oper} {v : Value} {k : Nat} {listed : Array Bool} {a : Act} {w : World} (hi : ops[i]? = some oi)
 (hs : Region.noSelect ops = true) (hf : okK md ops listed i m oi (waits md ops i) = true) (hr : (Region.ready md ops listed).contains i = true)
 (hQ : ∀ c a w, Q (.panic c) (a.put oi.dst v) w → Q (.panic c) a w) (hy : YieldsIf P ops S oi v a) (hS : S w)
 (h : wpAnyA P md ops Q S m k (listed.setIfInBounds i true) (a.put oi.dst v) w) : wpAnyA P md ops Q S m (k + 1) listed a w := by
 obtain ⟨h1, h2, h3⟩ := okK_spec hf
 exact wpAnyA_first hi (Region.noSelect_spec hs) hQ _ h1 k listed a w h2 h3 (by simpa using hr) hy hS h
theorem wpA_takeT {i : Nat} {oi : Oper} {v : Value} {k : Nat} {listed : Array Bool} {a : Act} {w : World} (hi : ops[i]? = some oi)
 (hs : Region.noSelect ops = true) (hf : Region.free md ops listed i = true) (hr : (Region.ready md ops listed).contains i = true) (hm : m.contains i = false)
 (hQ : ∀ c a w, Q (.panic c) (a.put oi.dst v) w → Q (.panic c) a w) (hy : YieldsIf P ops (fun _ => True) oi v a)
 (h : wpAnyA P md ops Q S m k (listed.setIfInBounds i true) (a.put oi.dst v) w) : wpAnyA P md ops Q S m (k + 1) listed a w := by
 have hm' : ¬ m.contains i = true := by rw [hm]; decide
 exact wpAnyA_firstT hi (Region.noSelect_spec hs) hQ k listed a w (Region.free_spec hi hf) (by simpa using hr) hy (fun h => absurd h hm') h (fun _ _ _ h => absurd h hm') hm'
def AllReadyA (P : Program) (md : Region.Mode) (ops : Array Oper) (Q : Exit → Act → World → Prop) (S : World → Prop) (m : List Nat) (k : Nat) (listed : Array Bool) (a : Act) (w : World) (rs : List Nat) : Prop :=
 ∀ i ∈ rs, wpOp P ops Q i (fun a' w' => (m.contains i = true → S w') ∧ wpAnyA P md ops Q S m k (listed.setIfInBounds i true) a' w') a w
theorem AllReadyA.nil {k : Nat} {listed : Array Bool} {a : Act} {w : World} : AllReadyA P md ops Q S m k listed a w [] := fun _ h => by cases h
theorem AllReadyA.cons {k : Nat} {listed : Array Bool} {a : Act} {w : World} {i : Nat} {o : Oper} {rs : List Nat} (ho : ops[i]? = some o)
 (h : ∀ K' : Act → World → Prop, Shut (∀ a w, S w → (S w → wpAnyA P md ops Q S m k (listed.setIfInBounds i true) a w) → K' a w) → if Region.wanted o (yielded ops a.tmps) = true then Oper.wp P o a w K' Q else K' (a.put o.dst undef) w)
 (hs : AllReadyA P md ops Q S m k listed a w rs) : AllReadyA P md ops Q S m k listed a w (i :: rs) := fun j hj => by
 rcases List.mem_cons.1 hj with rfl | hj
 · exact wpOp_step ho (fun K' hK => h K' (fun a w hS hW => hK a w ⟨fun _ => hS, hW hS⟩))
 · exact hs j hj
theorem AllReadyA.late {k : Nat} {listed : Array Bool} {a : Act} {w : World} {i : Nat} {o : Oper} {rs : List Nat} (ho : ops[i]? = some o) (hm : m.contains i = false)
 (h : ∀ K' : Act → World → Prop, Shut (∀ a w, True → (True → wpAnyA P md ops Q S m k (listed.setIfInBounds i true) a w) → K' a w) → if Region.wanted o (yielded ops a.tmps) = true then Oper.wp P o a w K' Q else K' (a.put o.dst undef) w)
 (hs : AllReadyA P md ops Q S m k listed a w rs) : AllReadyA P md ops Q S m k listed a w (i :: rs) := fun j hj => by
 rcases List.mem_cons.1 hj with rfl | hj
 · exact wpOp_step ho (fun K' hK => h K' (fun a w hS hW => hK a w ⟨fun h => absurd h (by rw [hm]; decide), hW trivial⟩))
 · exact hs j hj
theorem wpA_ready {rs : List Nat} {k : Nat} {listed : Array Bool} {a : Act} {w : World} (hr : Region.ready md ops listed = rs) (hne : rs ≠ [])
 (h : AllReadyA P md ops Q S m k listed a w rs) : wpAnyA P md ops Q S m (k + 1) listed a w :=
 ⟨fun h0 => absurd (hr ▸ h0) hne, hr ▸ h⟩
theorem wpA_done {listed : Array Bool} {a : Act} {w : World} (hr : Region.ready md ops listed = []) (h : Q .normal a w) : ∀ k, wpAnyA P md ops Q S m k listed a w
 | 0 => ⟨hr, h⟩
 | _ + 1 => ⟨fun _ => h, by rw [hr]; simp⟩
theorem wp_region_A {id : Nat} {a : Act} {w : World} (m : List Nat) (hm : P.follows .mixedOrders = true) (hS : S w.drew)
 (h : S w.drew → wpAnyA P .any ops Q S m ops.size (Array.replicate ops.size false) a w.drew) : (Code.region id ops true).wp P Q a w :=
 wp_region_any hm (wpAny_of_A _ _ _ _ (h hS))
theorem WA (i : Nat) (v : Value) {oi : Oper} {k : Nat} {listed : Array Bool} {a : Act} {w : World} (hv : ∀ w, S w → (execOp a.eval oi).run P w = .ok (.value v) w) (hS : S w)
 (h : wpAnyA P md ops Q S m k (listed.setIfInBounds i true) (a.put oi.dst v) w) (hi : ops[i]? = some oi := by exact rfl) (hs : Region.noSelect ops = true := by kernel_rfl) (hf : okK md ops listed i m oi (waits md ops i) = true := by kernel_rfl)
 (hr : (Region.ready md ops listed).contains i = true := by kernel_rfl) (hw : Region.wanted oi (yielded ops a.tmps) = true := by kernel_rfl) (hQ : ∀ c a w, Q (.panic c) (a.put oi.dst v) w → Q (.panic c) a w := by exact fun _ _ _ h => h) :
 wpAnyA P md ops Q S m (k + 1) listed a w := wpA_take hi hs hf hr hQ (.inl ⟨hw, hv⟩) hS h
theorem WT (i : Nat) (v : Value) {oi : Oper} {k : Nat} {listed : Array Bool} {a : Act} {w : World} (hv : ∀ w, True → (execOp a.eval oi).run P w = .ok (.value v) w)
 (h : wpAnyA P md ops Q S m k (listed.setIfInBounds i true) (a.put oi.dst v) w) (hi : ops[i]? = some oi := by exact rfl) (hs : Region.noSelect ops = true := by kernel_rfl) (hf : Region.free md ops listed i = true := by kernel_rfl)
 (hr : (Region.ready md ops listed).contains i = true := by kernel_rfl) (hm : m.contains i = false := by exact rfl) (hw : Region.wanted oi (yielded ops a.tmps) = true := by kernel_rfl) (hQ : ∀ c a w, Q (.panic c) (a.put oi.dst v) w → Q (.panic c) a w := by exact fun _ _ _ h => h) :
 wpAnyA P md ops Q S m (k + 1) listed a w := wpA_takeT hi hs hf hr hm hQ (.inl ⟨hw, hv⟩) h
end
end Go.Proofs.YtijhamllnnilbaaGreatDoor.Ra
namespace Go.Proofs.YtijhamllnnilbaaGreatDoor.Bl
open Go.RowKit Go.Proofs.YtijhamllnnilbaaGreatDoor.Mem Go.Proofs.YtijhamllnnilbaaGreatDoor.Pg

theorem dropWhile_nil {α : Type} (p : α → Bool) : ∀ l : List α, l.dropWhile p = [] ↔ ∀ x ∈ l, p x = true
 | [] => by simp
 | a :: l => by
  by_cases h : p a = true
  · simp [h, dropWhile_nil p l]
  · simp [h]
theorem trimB_nil (l : List UInt8) (c : UInt8) : Lib.trimB l c = [] ↔ ∀ x ∈ l, x = c := by
 unfold Lib.trimB Lib.trimLeftB Lib.trimRightB
 rw [dropWhile_nil]
 constructor
 · intro h x hx
   have h0 : l.reverse.dropWhile (· == c) = [] := by
    rcases hd : l.reverse.dropWhile (· == c) with _ | ⟨y, ys⟩
    · rfl
    · have h1 := List.head_dropWhile_not (fun x => x == c) (l := l.reverse) (by rw [hd]; simp)
      have h2 := h y (by rw [hd]; simp)
      simp [hd] at h1
      simp at h2
      exact absurd h2 h1
   rw [dropWhile_nil] at h0
   simpa using h0 x (by simpa using hx)
 · intro h x hx
   have h0 : l.reverse.dropWhile (· == c) = [] := by
    rw [dropWhile_nil]
    intro y hy
    simpa using h y (by simpa using hy)
   rw [h0] at hx
   simp at hx
structure Pg where
 (k d x : Int)
 b : List UInt8
def Pg.cells (p : Pg) : List Value := [.int .i64 p.k, .int .i64 p.d, .int .i64 p.x, .string (str p.b)]
def Pgs (w : World) (A : Option Addr) (n : Nat) (l : List Pg) : Prop :=
 l.length = n ∧ n ≤ 1000 ∧ (0 < n → ∃ b off, A = some ⟨b, off, none⟩ ∧ b < w.heap.size ∧ ∀ i p, l[i]? = some p → ∀ j u, p.cells[j]? = some u → w.cell? ⟨b, off + i * 4 + j, none⟩ = some u)
def nAt (z : Int) (i : Nat) : Nat := min (z - 200 * i).toNat 200
def PgOk (z : Int) (len i : Nat) (p : Pg) : Prop := p.k = 5 ∧ (p.x = 0 ↔ i + 1 = len) ∧ p.b.length = 240 ∧ ∀ c ∈ p.b.drop (nAt z i), c = 0
def GetOk (z : Int) (l : List Pg) : Prop := l.length ≠ 0 ∧ l.length = pgI z ∧ ∀ i p, l[i]? = some p → PgOk z l.length i p
def got (z : Int) (l : List Pg) : Nat → List UInt8
 | 0 => []
 | j + 1 => got z l j ++ match l[j]? with | some p => p.b.take (nAt z j) | none => []
def GetPost (w : World) (z : Int) (l : List Pg) (e : Ending) (w' : World) : Prop :=
 ((GetOk z l ∧ e = .returned (.tuple #[.string (str (got z l l.length)), .bool true])) ∨ (¬ GetOk z l ∧ e = .returned (.tuple #[.string ⟨#[]⟩, .bool false]))) ∧ Below w.heap.size w w'
theorem pgI_lt (z : Int) (j : Nat) (h : j < pgI z) : 200 * (j : Int) < z ∧ 40 < z ∧ z ≤ 400 := by
 unfold pgI at h
 split at h <;> omega
theorem got_len {z : Int} {l : List Pg} {len : Nat} : ∀ j, j < pgI z → (∀ i, i < j → ∃ p, l[i]? = some p ∧ PgOk z len i p) → (got z l j).length = 200 * j := by
 intro j
 induction j with
 | zero => intro _ _; rfl
 | succ j ih =>
  intro h hp
  obtain ⟨p, h1, h2⟩ := hp j (by omega)
  have hz := pgI_lt z (j + 1) h
  have := h2.2.2.1
  rw [got, h1, List.length_append, ih (by omega) (fun i hi => hp i (by omega)), List.length_take, this]
  unfold nAt
  omega
theorem ext_drop (l : List UInt8) (n : Nat) : (str l).extract n (str l).size = str (l.drop n) := by
 rw [str_size, Lib.extract_mk, List.take_of_length_le (by simp)]
theorem isB_drew {T e : TypeId} {B b : Nat} {bs : List Value} {w : World} (h : Lib.IsBuilderF T e B b bs w) : Lib.IsBuilderF T e B b bs w.drew := h.imp Lib.BuilderAtF.drew Lib.BuilderAtF.drew

theorem below_tr' {B : Nat} {a b c : World} (h : Below B a b) (k : Below B b c) : Below B a c := h.trans k

set_option maxRecDepth 100000 in
set_option maxHeartbeats 4000000 in
theorem get_any (z : Int) (A : Option Addr) (n cap : Nat) (l : List Pg) (w : World) (hz : Pgs w A n l) :
 Calls Tryz.prog 77 #[.int .i64 z, .slice A n cap] w (GetPost w z l) := by
 have hpg := fun w => blobPagesI_any z w
 have hn : l.length = n := hz.1
 by_cases h0 : n = 0
 · have hno : ¬ GetOk z l := fun h => h.1 (by omega)
   have d0 : ((n : Int) == 0) = true := by simp; omega
   have Hno := Lib.hid hno
   clear hno hpg hz hn
   subst h0
   go_enter Tryz.func77, Tryz.ntmps77
   go_wp2
   go_ret2
   exact ⟨.inr ⟨Hno.out, rfl⟩, Below.refl _ _⟩
 · have d0 : ((n : Int) == 0) = false := by simp; omega
   by_cases h1 : n = pgI z
   · have d1 : ((n : Int) != (pgI z : Int)) = false := by simp; omega
     have hn2 : n ≤ 2 := by have := pgI_le z; omega
     have H1 := Lib.hid h1
     have H0 := Lib.hid h0
     obtain ⟨P, hP⟩ : ∃ P, P = pgI z := ⟨_, rfl⟩
     rw [← hP] at d1 hpg
     have HP := Lib.hid hP
     obtain ⟨b, off, rfl, hbl, hcell⟩ := hz.2.2 (by omega)
     have Hcell := Lib.hid hcell
     have Hn := Lib.hid hn
     clear hP h1 h0 hz hcell hn
     go_enter Tryz.func77, Tryz.ntmps77
     go_wp2_with fail
     refine (hpg _).mono ?_
     rintro e w1 ⟨rfl, rfl⟩
     clear hpg
     go_wp2_with fail
     go_loopw [23] (fun i wr => ∃ j : Nat, i = .int .i64 j ∧ j ≤ n ∧ Lib.IsBuilderF 239 5 w1.heap.size w1.heap.size (Lib.byteCells (got z l j)) wr ∧ Below w1.heap.size w1 wr ∧ Hid (∀ i, i < j → ∃ p, l[i]? = some p ∧ PgOk z l.length i p)) (fun i _ => n - (intOf i).toNat)
     case atStart => exact ⟨0, rfl, Nat.zero_le _, .inl ⟨Nat.le_refl _, .slice none 0 0, heap_alloc_new _ _, World.ownsRowF_of (World.ownsRow_nil _ _ _ _), by simp [Value.ownBlock]⟩, below_al (Below.refl _ _) _, Lib.hid (fun i hi => absurd hi (by omega))⟩
     case round =>
      obtain ⟨j, rfl, hj, hbu, hbel, hoks⟩ := hrel
      by_cases hlt : j < n
      · obtain ⟨p, hp⟩ : ∃ p, l[j]? = some p := ⟨l[j]'(by have := Hn.out; omega), by rw [List.getElem?_eq_getElem]⟩
        obtain ⟨pk, pd, px, pb⟩ := p
        have c0 := (hbel.cell (p := ⟨b, off + j * 4 + 0, none⟩) hbl).trans (Hcell.out j _ hp 0 _ rfl)
        have c1 := (hbel.cell (p := ⟨b, off + j * 4 + 1, none⟩) hbl).trans (Hcell.out j _ hp 1 _ rfl)
        have c2 := (hbel.cell (p := ⟨b, off + j * 4 + 2, none⟩) hbl).trans (Hcell.out j _ hp 2 _ rfl)
        have c3 := (hbel.cell (p := ⟨b, off + j * 4 + 3, none⟩) hbl).trans (Hcell.out j _ hp 3 _ rfl)
        rw [Nat.add_zero] at c0
        have hz := pgI_lt z j (by have := H1.out; omega)
        have hgl : (Lib.byteCells (got z l j)).length = 200 * j := by rw [Lib.byteCells, List.length_map]; exact got_len j (by have := H1.out; omega) hoks.out
        have hlen := fun W h => Tryz.Builder_Len_f w1.heap.size w1.heap.size (Lib.byteCells (got z l j)) W h
        rw [hgl] at hlen
        obtain ⟨m, hm⟩ : ∃ m, m = nAt z j := ⟨_, rfl⟩
        have hmin : min (z - ((200 * j : Nat) : Int)) 200 = (m : Int) := by rw [hm, nAt]; omega
        have hm2 : m ≤ 200 := by rw [hm, nAt]; omega
        have hwr : IntKind.i64.wrap (z - ((200 * j : Nat) : Int)) = z - ((200 * j : Nat) : Int) := IntWalk.i64_in _ (by omega)
        have hwr2 : wrap64 (z - ((200 * j : Nat) : Int)) = z - ((200 * j : Nat) : Int) := IntWalk.wrap64_in _ (by omega)
        have Hm := Lib.hid hm
        have Hz := Lib.hid hz
        have Hp := Lib.hid hp
        clear hm hz hp hgl
        obtain ⟨J, hJ⟩ : ∃ J, J = 200 * j := ⟨_, rfl⟩
        rw [← hJ] at hlen hmin hwr hwr2
        clear hJ
        go_wp2_with fail
        with_reducible refine (hlen _ (hbu.alloc _)).mono ?_
        rintro e w2 ⟨rfl, rfl⟩
        clear hlen
        generalize hbx : (px == 0) = bx
        generalize hbl' : ((j : Int) + 1 == (n : Int)) = bl
        have Hbx := Lib.hid hbx
        have Hbl := Lib.hid hbl'
        by_cases e1 : pk = 5
        · have d5 : (pk != 5) = false := by simpa using e1
          have E1 := Lib.hid e1
          clear e1
          by_cases e2 : bx = bl
          · subst e2
            by_cases e3 : pb.length = 240
            · have d240 : (((str pb).size : Int) != 240) = false := by rw [str_size]; simp; omega
              have hms : m ≤ (str pb).size := by rw [str_size]; omega
              have hms2 : (m : Int) ≤ ((str pb).size : Int) := by omega
              have htr := fun W => Tryz.strings_Trim_one ((str pb).extract m (str pb).size) 0 (by decide) W (by rw [ext_drop, str_size, List.length_drop]; omega)
              have hdt : ((str pb).extract m (str pb).size).data.toList = pb.drop m := by rw [ext_drop]
              rw [hdt] at htr
              have E3 := Lib.hid e3
              have hs240 : (str pb).size = 240 := by rw [str_size]; exact e3
              obtain ⟨T, hT⟩ : ∃ T, T = Lib.trimB (pb.drop m) 0 := ⟨_, rfl⟩
              rw [← hT] at htr
              have HT := Lib.hid hT
              clear e3 hdt hT
              obtain ⟨S, hS⟩ : ∃ S, S = str pb := ⟨_, rfl⟩
              rw [← hS] at d240 hms hms2 htr hs240 ⊢
              rw [hs240] at htr hms hms2 d240
              have HS := Lib.hid hS
              clear hS
              rcases T with _ | ⟨t0, ts⟩
              · go_wp2_with fail
                with_reducible refine (htr _).mono ?_
                rintro e w3 ⟨rfl, hw3⟩
                have hbl3 : Hid (Below w1.heap.size w1 w3) ∧ Lib.IsBuilderF 239 5 w1.heap.size w1.heap.size (Lib.byteCells (got z l j)) w3 ∧ w3.heap[wr.heap.size]? = some (.cells #[.int .i64 pk, .int .i64 pd, .int .i64 px, .string S] 113 (0, 0)) := by
                 rcases hw3 with rfl | rfl
                 · exact ⟨below_al hbel _, hbu.alloc _, heap_alloc_new _ _⟩
                 · exact ⟨below_dr (below_al hbel _), isB_drew (hbu.alloc _), heap_alloc_new wr _⟩
                obtain ⟨hbw3, hbu3, hpg3⟩ := hbl3
                clear hw3 htr hbu hbel
                have hcp3 := blk_cell hpg3
                have hzp3 := lt_of_block hpg3
                have hcells : Hid (Lib.byteCells (got z l (j + 1)) = Lib.byteCells (got z l j) ++ Lib.strCells (S.extract 0 m)) := by
                 show _ = _
                 rw [got, Hp.out, HS.out, Lib.extract_mk]
                 simp [Lib.byteCells, Lib.strCells, ← Hm.out]
                have hok1 : Hid (∀ i, i < j + 1 → ∃ p, l[i]? = some p ∧ PgOk z l.length i p) := fun i hi => by
                 rcases Nat.lt_or_eq_of_le (Nat.le_of_lt_succ hi) with h | rfl
                 · exact hoks.out i h
                 · have h3 := Hn.out
                   have hb1 := Hbx.out
                   have hb2 := Hbl.out
                   refine ⟨_, Hp.out, E1.out, ?_, E3.out, by rw [← Hm.out]; exact (trimB_nil _ _).1 HT.out.symm⟩
                   have hb3 := hb1.trans hb2.symm
                   rw [Bool.eq_iff_iff] at hb3
                   simp at hb3
                   show px = 0 ↔ _
                   omega
                have hws := Tryz.Builder_WriteString_k w1.heap.size w1.heap.size (Lib.byteCells (got z l j)) (S.extract 0 m) w3 hbu3 (by
                 have h1 := got_len (z := z) (l := l) (len := l.length) j (by have := H1.out; omega) hoks.out
                 have h2 : (S.extract 0 m).size ≤ 240 := by rw [ByteArray.size_extract]; omega
                 rw [Lib.byteCells, List.length_map]
                 omega) hbw3.out.size
                go_wp2_with fail
                with_reducible refine hws.mono ?_
                rintro e w4 ⟨rfl, hbu4, hbw4, _⟩
                rw [← hcells.out] at hbu4
                have hbw := below_tr' hbw3.out hbw4
                clear hws hcp3 hzp3 hpg3 hbu3 hbw4
                go_wp2_with fail
                go_roundw
                case rel => exact ⟨j + 1, by go_num, by omega, .inr hbu4, hbw, hok1⟩
                case measure => simp [intOf]; omega
              · have hne : Hid (¬ GetOk z l) := fun h => by
                 have h4 := (h.2.2 j _ Hp.out).2.2.2
                 rw [← Hm.out] at h4
                 have := (trimB_nil (pb.drop m) 0).2 h4
                 rw [← HT.out] at this
                 cases this
                go_wp2_with fail
                with_reducible refine (htr _).mono ?_
                rintro e w3 ⟨rfl, hw3⟩
                have hbl3 : Hid (Below w1.heap.size w1 w3) := by
                 rcases hw3 with rfl | rfl
                 · exact below_al hbel _
                 · exact below_dr (below_al hbel _)
                clear hw3 htr hbu hbel
                go_wp2
                go_ret2
                exact ⟨.inr ⟨hne.out, rfl⟩, hbl3.out⟩
            · have d240 : (((str pb).size : Int) != 240) = true := by rw [str_size]; simp; omega
              have Hno : Hid (¬ GetOk z l) := fun h => e3 (h.2.2 j _ Hp.out).2.2.1
              clear hbu
              go_wp2
              go_ret2
              exact ⟨.inr ⟨Hno.out, rfl⟩, below_al hbel _⟩
          · have hxn : (bx != bl) = true := by simpa using e2
            clear hbx hbl'
            have hbx := Hbx.out
            have hbl' := Hbl.out
            have Hno : Hid (¬ GetOk z l) := fun h => e2 (by have h2 : px = 0 ↔ j + 1 = l.length := (h.2.2 j _ Hp.out).2.1; have h3 := Hn.out; rw [← Hbx.out, ← Hbl.out, Bool.eq_iff_iff]; simp; omega)
            clear hbu
            go_wp2
            go_ret2
            exact ⟨.inr ⟨Hno.out, rfl⟩, below_al hbel _⟩
        · have d5 : (pk != 5) = true := by simpa using e1
          clear hbx hbl'
          have Hno : Hid (¬ GetOk z l) := fun h => e1 (h.2.2 j _ Hp.out).1
          clear hbu
          go_wp2
          go_ret2
          exact ⟨.inr ⟨Hno.out, rfl⟩, below_al hbel _⟩
      · obtain rfl : j = n := by omega
        have hok : Hid (GetOk z l) := ⟨by have := Hn.out; have := H0.out; omega, by have := Hn.out; have := H1.out; omega, fun i p hp => by
         obtain ⟨q, h1, h2⟩ := hoks.out i (by rw [← Hn.out]; exact (List.getElem?_eq_some_iff.1 hp).1)
         rw [hp] at h1
         injection h1 with h1
         rw [h1]
         exact h2⟩
        have hst := Tryz.Builder_String_any_k w1.heap.size w1.heap.size (got z l j) wr hbu hbel.size
        go_wp2_with fail
        with_reducible refine hst.mono ?_
        rintro e w2 ⟨rfl, _, hb2, _⟩
        clear hst hbu
        go_wp2
        go_ret2
        exact ⟨.inl ⟨hok.out, by rw [Hn.out]; rfl⟩, below_tr' hbel hb2⟩
   · have hno : ¬ GetOk z l := fun h => h1 (by have := h.2.1; omega)
     have d1 : ((n : Int) != (pgI z : Int)) = true := by simp; omega
     have Hno := Lib.hid hno
     obtain ⟨P, hP⟩ : ∃ P, P = pgI z := ⟨_, rfl⟩
     rw [← hP] at d1 hpg
     clear hno hz hP h1 hn
     go_enter Tryz.func77, Tryz.ntmps77
     go_wp2_with fail
     refine (hpg _).mono ?_
     rintro e w1 ⟨rfl, rfl⟩
     clear hpg
     go_wp2
     go_ret2
     exact ⟨.inr ⟨Hno.out, rfl⟩, Below.refl _ _⟩
end Go.Proofs.YtijhamllnnilbaaGreatDoor.Bl
