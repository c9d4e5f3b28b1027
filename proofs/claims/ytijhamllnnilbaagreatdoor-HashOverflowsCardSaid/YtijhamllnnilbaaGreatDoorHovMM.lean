/- A map of texts: what lies in it is of a list; a range over it. -/
import Derived.Test.YtijhamllnnilbaaGreatDoorM33
import Derived.Maps.RangeWalk
import Derived.StringKeys
namespace Go.Proofs.YtijhamllnnilbaaGreatDoor.Ha
open Go.RowKit Go.Proofs.YtijhamllnnilbaaGreatDoor.Mem Go.Proofs.YtijhamllnnilbaaGreatDoor.Pg Go.Proofs.YtijhamllnnilbaaGreatDoor.Kp Go.Proofs.YtijhamllnnilbaaGreatDoor.Sp Go.Proofs.YtijhamllnnilbaaGreatDoor.Gr
set_option linter.unusedVariables false
set_option linter.unusedSimpArgs false
theorem skeyed : Maps.Keyed Tryz.prog 9 := Maps.string_keyed Tryz.underlying9
/-- Block b is a map of at most m texts, each of J. -/
def KSub (w : World) (b m : Nat) (J : List (List UInt8)) : Prop :=
  ∃ D : DataW Unit, w.ownsMap Tryz.prog 9 (plainElem Tryz.prog 4) b m D ∧ ∀ q, Maps.has D q = true → ∃ k, k ∈ J ∧ q = .string k
theorem KSub.block {w w' : World} {b m : Nat} {J : List (List UInt8)} (h : KSub w b m J) (e : w'.heap[b]? = w.heap[b]?) : KSub w' b m J := by
  obtain ⟨D, h1, h2⟩ := h
  exact ⟨D, owns_block h1 e, h2⟩
theorem KSub.lt {w : World} {b m : Nat} {J : List (List UInt8)} (h : KSub w b m J) : b < w.heap.size := by
  obtain ⟨D, h1, h2⟩ := h
  exact h1.lt
theorem KSub.below {w w' : World} {b m : Nat} {J : List (List UInt8)} (h : KSub w b m J) (k : Below w.heap.size w w') : KSub w' b m J := h.block (k.block _ h.lt)
theorem KSub.made (w : World) : KSub (w.alloc (.map #[] 0)) w.heap.size 0 [] :=
  ⟨.map [], World.ownsMap_made w _ _ _, fun q h => by cases h⟩
theorem KSub.put {w : World} {b m : Nat} {J : List (List UInt8)} (h : KSub w b m J) (k : List UInt8) (hk : (str k).size ≤ maxLen) (hm : m < 1000000) :
    ∃ w', (Instr.mapUpdate 60 (.map (some b)) (.string (str k)) (.bool true)).run Tryz.prog w = .ok () w' ∧ KSub w' b (m + 1) (k :: J) ∧ w.grownBy w' (some b) := by
  obtain ⟨D, h1, h2⟩ := h
  have hkey := WideMaps.keyOf_string_mk Tryz.underlying9 hk
  rw [show (str k).data.toList = k from by simp] at hkey
  obtain ⟨w', hrun, hown, hg⟩ := h1.update skeyed Tryz.underlying60 (by unfold maxLen; omega) hkey (plainElem_bool Tryz.underlying4 true)
  refine ⟨w', hrun, ⟨_, hown, fun q hq => ?_⟩, hg⟩
  by_cases e : q = .string k
  · exact ⟨k, List.mem_cons_self .., e⟩
  · rw [Maps.has_put_other e] at hq
    obtain ⟨k', h3, h4⟩ := h2 q hq
    exact ⟨k', List.mem_cons_of_mem _ h3, h4⟩
/-- A range over it is under way; cnt are to come. -/
def KRng (w : World) (b r m : Nat) (J : List (List UInt8)) (cnt : Nat) : Prop :=
  ∃ (D : DataW Unit) (left : Lit → Bool), w.ranges Tryz.prog 9 (plainElem Tryz.prog 4) b r m D left cnt ∧ ∀ q, left q = true → ∃ k, k ∈ J ∧ q = .string k
theorem KRng.lt {w : World} {b r m cnt : Nat} {J : List (List UInt8)} (h : KRng w b r m J cnt) : b < w.heap.size ∧ r < w.heap.size := by
  obtain ⟨D, left, h1, _⟩ := h
  exact ⟨h1.owns.lt, h1.lt⟩
theorem KRng.below {w w' : World} {b r m cnt : Nat} {J : List (List UInt8)} (h : KRng w b r m J cnt) (k : Below w.heap.size w w') : KRng w' b r m J cnt := by
  have hl := h.lt
  obtain ⟨D, left, ⟨es, clock, since, seen, c0, h1, h2, h3, h4, h5, h6⟩, h7⟩ := h
  exact ⟨D, left, ⟨es, clock, since, seen, c0, (k.block _ hl.1).trans h1, h2, h3, h4, (k.block _ hl.2).trans h5, h6⟩, h7⟩
theorem KRng.left_eq {w : World} {b r m cnt : Nat} {J : List (List UInt8)} (h : KRng w b r m J cnt) : w.rangeLeft b r = cnt := by
  obtain ⟨D, left, h1, _⟩ := h
  exact h1.left_eq
section
variable (w : World) {ops : Array Oper} {rest : List Oper} {o : Oper} {a : Act} {Q : Exit → Act → World → Prop}
theorem wpList_range_k (hg : o.guard = none) (m : Operand) (hop : o.op = Op.range 60 m) (b n : Nat) (J : List (List UInt8)) (hm : a.eval m = .map (some b)) (h : KSub w b n J)
    (hK : ∀ w' cnt, KRng w' b w.heap.size n J cnt → w.grownBy w' none → w'.heap.size = w.heap.size + 1 → wpList Tryz.prog ops Q rest (a.put o.dst (.pointer (some ⟨w.heap.size, 0, none⟩))) w') :
    wpList Tryz.prog ops Q (o :: rest) a w := by
  obtain ⟨D, h1, h2⟩ := h
  exact wpList_range_own w hg m _ hop _ _ skeyed Tryz.underlying60 _ b n D hm h1 fun w' hr hgr hs => hK w' _ ⟨D, _, hr, h2⟩ hgr hs
theorem wpList_next_k (hg : o.guard = none) (it : Operand) (hop : o.op = Op.next it false) (b r n cnt : Nat) (J : List (List UInt8)) (hit : a.eval it = .pointer (some ⟨r, 0, none⟩)) (h : KRng w b r n J cnt)
    (hDone : wpList Tryz.prog ops Q rest (a.put o.dst (.tuple #[.bool false])) w)
    (hMore : ∀ (k : List UInt8) (x : Bool) (w' : World) (cnt' : Nat), k ∈ J → KRng w' b r n J cnt' → cnt' < cnt → w.grownBy w' (some r) → w'.heap.size = w.heap.size → (Instr.entry (.pointer (some ⟨r, 0, none⟩))).run Tryz.prog w' = .ok (.tuple #[.string (str k), .bool x]) w' →
      wpList Tryz.prog ops Q rest (a.put o.dst (.tuple #[.bool true, .string (str k), .bool x])) w') :
    wpList Tryz.prog ops Q (o :: rest) a w := by
  obtain ⟨D, left, h1, h2⟩ := h
  refine wpList_next_ranges w hg it hop _ skeyed (plainElem Tryz.prog 4) (fun s : ByteArray => Value.string s) (fun x : Bool => Value.bool x) (fun key kl hk => ?_) (fun v y hv => ?_) b r n D left cnt hit h1 (fun _ _ => hDone) (fun s x kl y w' cnt' hkey hl hv hat hr hlt hgr hsz hen => ?_)
  · rw [_root_.Go.keyOf_string Tryz.underlying9] at hk
    cases key <;> simp [mapKey, Tryz.underlying9] at hk
    exact ⟨_, rfl⟩
  · obtain ⟨x, rfl, _⟩ := bool_inv hv
    exact ⟨x, rfl⟩
  · obtain ⟨k, hk, rfl⟩ := h2 kl hl
    have e : s = str k := by
      rw [_root_.Go.keyOf_string Tryz.underlying9] at hkey
      simp [mapKey, Tryz.underlying9] at hkey
      rw [← hkey.2]
      first | done | exact (str_of s)
    subst e
    exact hMore k x w' cnt' hk ⟨D, _, hr, fun q hq => h2 q (by simp only [Bool.and_eq_true] at hq; exact hq.1)⟩ hlt hgr hsz hen
end
end Go.Proofs.YtijhamllnnilbaaGreatDoor.Ha
