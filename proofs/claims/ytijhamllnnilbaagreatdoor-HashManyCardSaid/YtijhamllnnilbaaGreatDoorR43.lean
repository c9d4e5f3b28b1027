/- Lemmas of the claim, in their order:
- Maps from texts to texts; a range over one.
-/
import Derived.Test.YtijhamllnnilbaaGreatDoorR39
import Derived.Test.YtijhamllnnilbaaGreatDoorR41
set_option linter.unusedVariables false
set_option linter.unusedSimpArgs false
namespace Go.Proofs.YtijhamllnnilbaaGreatDoor.Ha
open Go.RowKit Go.Proofs.YtijhamllnnilbaaGreatDoor.Mem Go.Proofs.YtijhamllnnilbaaGreatDoor.Pg Go.Proofs.YtijhamllnnilbaaGreatDoor.Kp Go.Proofs.YtijhamllnnilbaaGreatDoor.Sp Go.Proofs.YtijhamllnnilbaaGreatDoor.Gr
set_option linter.unusedVariables false
set_option linter.unusedSimpArgs false
set_option maxRecDepth 10000
def TStr (w : World) (b : Nat) (F : Mp) (m : Nat) : Prop :=
 ∃ D : DataW Unit, w.ownsMap Tryz.prog 9 (plainElem Tryz.prog 9) b m D ∧ Maps.size D = m ∧ ∀ k, Maps.has D (tl k) = (F k).isSome ∧ ∀ v, F k = some v → D.atKey (tl k) (.lit (.string [])) = .lit (.string v)
theorem TStr.block {w w' : World} {b m : Nat} {F : Mp} (h : TStr w b F m) (e : w'.heap[b]? = w.heap[b]?) : TStr w' b F m := by
 obtain ⟨D, h1, h2⟩ := h
 exact ⟨D, owns_block h1 e, h2⟩
theorem TStr.lt {w : World} {b m : Nat} {F : Mp} (h : TStr w b F m) : b < w.heap.size := by
 obtain ⟨D, h1, h2⟩ := h
 exact h1.lt
theorem TStr.below {w w' : World} {b m : Nat} {F : Mp} (h : TStr w b F m) (k : Below w.heap.size w w') : TStr w' b F m := h.block (k.block _ h.lt)
theorem TStr.keep {S : Nat → Prop} {w w' : World} {b m : Nat} {F : Mp} (h : TStr w b F m) (k : Keep S w w') (hs : ¬ S b) : TStr w' b F m := h.block (k.block _ h.lt hs)
theorem TStr.made (w : World) : TStr (w.alloc (.map #[] 0)) w.heap.size (fun _ => none) 0 :=
 ⟨.map [], World.ownsMap_made w _ _ _, rfl, fun i => ⟨rfl, fun v h => by cases h⟩⟩
theorem TStr.look {w : World} {b m : Nat} {F : Mp} (h : TStr w b F m) (k : List UInt8) (hk : (str k).size ≤ maxLen) :
 (Instr.lookup 40 (.map (some b)) (.string (str k)) true).run Tryz.prog w = .ok (.tuple #[.string (str ((F k).getD [])), .bool (F k).isSome]) w := by
 obtain ⟨D, ho, hsz, hh⟩ := h
 obtain ⟨hhas, hat⟩ := hh k
 have hz := plainElem_string (H := Unit) (P := Tryz.prog) (e := 9) Tryz.underlying9 (s := ⟨#[]⟩) (by simp [ByteArray.size, maxLen])
 obtain ⟨v, ps, hrun, hv⟩ := ho.look_ok skeyed Tryz.underlying40 (zero_str w) hz (tkey hk)
 rw [hhas] at hrun
 obtain ⟨s, rfl, hs, _⟩ := plainElem_string_inv Tryz.underlying9 hv
 have hs1 : D.atKey (tl k) (.lit (.string [])) = .lit (.string s.data.toList) := (Prod.mk.inj hs).1
 rcases e : F k with _ | l
 · rw [e] at hrun
   have h1 : Maps.has D (tl k) = false := by rw [hhas, e]; rfl
   rw [Maps.atKey_of_not_has h1] at hs1
   simp only [DataW.lit.injEq, Lit.string.injEq] at hs1
   have hs2 : s = str s.data.toList := str_of s
   rw [← hs1] at hs2
   rw [hs2] at hrun
   simp only [Option.getD_none, Option.isSome_none] at hrun ⊢
   exact hrun
 · rw [e] at hrun
   rw [hat l e] at hs1
   simp only [DataW.lit.injEq, Lit.string.injEq] at hs1
   have hs2 : s = str s.data.toList := str_of s
   rw [← hs1] at hs2
   rw [hs2] at hrun
   simp only [Option.getD_some, Option.isSome_some] at hrun ⊢
   exact hrun
theorem TStr.put {w : World} {b m : Nat} {F : Mp} (h : TStr w b F m) (k v : List UInt8) (hk : (str k).size ≤ maxLen) (hv : v.length ≤ 1000000) (hF : F k = none) (hm : m < 1000000) :
 ∃ w', (Instr.mapUpdate 40 (.map (some b)) (.string (str k)) (.string (str v))).run Tryz.prog w = .ok () w' ∧ TStr w' b (updM F k (some v)) (m + 1) ∧ w.grownBy w' (some b) := by
 obtain ⟨D, h1, hsz, h3⟩ := h
 have hkey := tkey hk
 have hisk : WideAt.IsKeyLit (tl k) := skeyed.key hkey
 have hve : plainElem (H := Unit) Tryz.prog 9 (.string (str v)) = some (.lit (.string v), []) := plainElem_string Tryz.underlying9 (by rw [str_size]; unfold maxLen; omega)
 obtain ⟨w', hrun, hown, hg⟩ := h1.update skeyed Tryz.underlying40 (by unfold maxLen; omega) hkey hve
 have htidy := h1.tidy skeyed
 have hsz' := Maps.size_put (k := tl k) htidy (.lit (.string v))
 rw [(h3 k).1, hF, if_neg (fun h => by cases h), hsz] at hsz'
 refine ⟨w', hrun, ⟨D.put (tl k) (.lit (.string v)), hown, hsz', fun j => ?_⟩, hg⟩
 unfold updM
 by_cases hj : j = k
 · subst hj
   rw [Maps.has_put_same htidy.isMap hisk, Maps.atKey_put_same htidy.isMap hisk, if_pos rfl]
   exact ⟨rfl, fun u hu => by injection hu with hu; rw [hu]⟩
 · rw [Maps.has_put_other (tl_ne hj), Maps.atKey_put_other (tl_ne hj), (h3 j).1, if_neg hj]
   exact ⟨rfl, (h3 j).2⟩
theorem TStr.len {w : World} {b m : Nat} {F : Mp} (h : TStr w b F m) (ty : TypeId) : (Builtin.len_ #[40] ty #[.map (some b)]).run Tryz.prog w = .ok (.int .i64 m) w := by
 obtain ⟨D, h1, h2, _⟩ := h
 rw [← h2]
 exact h1.len Tryz.underlying40 ty
def TRng (w : World) (b r : Nat) (F : Mp) (m cnt : Nat) : Prop :=
 ∃ (D : DataW Unit) (left : Lit → Bool), w.ranges Tryz.prog 9 (plainElem Tryz.prog 9) b r m D left cnt ∧ Maps.size D = m ∧ ∀ k, Maps.has D (tl k) = (F k).isSome ∧ ∀ v, F k = some v → D.atKey (tl k) (.lit (.string [])) = .lit (.string v)
theorem TRng.lt {w : World} {b r m cnt : Nat} {F : Mp} (h : TRng w b r F m cnt) : b < w.heap.size ∧ r < w.heap.size := by
 obtain ⟨D, left, h1, _⟩ := h
 exact ⟨h1.owns.lt, h1.lt⟩
theorem TRng.map {w : World} {b r m cnt : Nat} {F : Mp} (h : TRng w b r F m cnt) : TStr w b F m := by
 obtain ⟨D, left, h1, h2⟩ := h
 exact ⟨D, h1.owns, h2⟩
theorem TRng.below {w w' : World} {b r m cnt : Nat} {F : Mp} (h : TRng w b r F m cnt) (k : Below w.heap.size w w') : TRng w' b r F m cnt := by
 have hl := h.lt
 obtain ⟨D, left, ⟨es, clock, since, seen, c0, h1, h2, h3, h4, h5, h6⟩, h7⟩ := h
 exact ⟨D, left, ⟨es, clock, since, seen, c0, (k.block _ hl.1).trans h1, h2, h3, h4, (k.block _ hl.2).trans h5, h6⟩, h7⟩
theorem TRng.left_eq {w : World} {b r m cnt : Nat} {F : Mp} (h : TRng w b r F m cnt) : w.rangeLeft b r = cnt := by
 obtain ⟨D, left, h1, _⟩ := h
 exact h1.left_eq
section
variable (w : World) {ops : Array Oper} {rest : List Oper} {o : Oper} {a : Act} {Q : Exit → Act → World → Prop}
theorem wpList_range_t (hg : o.guard = none) (m : Operand) (hop : o.op = Op.range 40 m) (b n : Nat) (F : Mp) (hm : a.eval m = .map (some b)) (h : TStr w b F n)
 (hK : ∀ w' cnt, TRng w' b w.heap.size F n cnt → w.grownBy w' none → w'.heap.size = w.heap.size + 1 → wpList Tryz.prog ops Q rest (a.put o.dst (.pointer (some ⟨w.heap.size, 0, none⟩))) w') :
 wpList Tryz.prog ops Q (o :: rest) a w := by
 obtain ⟨D, h1, h2⟩ := h
 exact wpList_range_own w hg m _ hop _ _ skeyed Tryz.underlying40 _ b n D hm h1 fun w' hr hgr hs => hK w' _ ⟨D, _, hr, h2⟩ hgr hs
theorem wpList_next_t (hg : o.guard = none) (it : Operand) (hop : o.op = Op.next it false) (b r n cnt : Nat) (F : Mp) (hit : a.eval it = .pointer (some ⟨r, 0, none⟩)) (h : TRng w b r F n cnt)
 (hDone : wpList Tryz.prog ops Q rest (a.put o.dst (.tuple #[.bool false])) w)
 (hMore : ∀ (k v : List UInt8) (w' : World) (cnt' : Nat), F k = some v → TRng w' b r F n cnt' → cnt' < cnt → w.grownBy w' (some r) → w'.heap.size = w.heap.size → (Instr.entry (.pointer (some ⟨r, 0, none⟩))).run Tryz.prog w' = .ok (.tuple #[.string (str k), .string (str v)]) w' →
  wpList Tryz.prog ops Q rest (a.put o.dst (.tuple #[.bool true, .string (str k), .string (str v)])) w') :
 wpList Tryz.prog ops Q (o :: rest) a w := by
 obtain ⟨D, left, h1, h2, h3⟩ := h
 refine wpList_next_ranges w hg it hop _ skeyed (plainElem Tryz.prog 9) (fun s : ByteArray => Value.string s) (fun s : ByteArray => Value.string s) (fun key kl hk => ?_) (fun v y hv => ?_) b r n D left cnt hit h1 (fun _ _ => hDone) (fun s x kl y w' cnt' hkey hl hv hat hr hlt hgr hsz hen => ?_)
 · rw [_root_.Go.keyOf_string Tryz.underlying9] at hk
   cases key <;> simp [mapKey, Tryz.underlying9] at hk
   exact ⟨_, rfl⟩
 · obtain ⟨s, rfl, _⟩ := plainElem_string_inv Tryz.underlying9 hv
   exact ⟨s, rfl⟩
 · obtain ⟨s', he, hs, _⟩ := plainElem_string_inv Tryz.underlying9 hv
   injection he with he
   subst he
   have hkl : kl = tl s.data.toList := by
    rw [_root_.Go.keyOf_string Tryz.underlying9] at hkey
    simp [mapKey, Tryz.underlying9] at hkey
    exact hkey.2.symm
   subst hkl
   have hy : y.1 = .lit (.string x.data.toList) := by rw [hs]
   have hF : F s.data.toList = some x.data.toList := by
    obtain ⟨h4, h5⟩ := h3 s.data.toList
    rcases e : F s.data.toList with _ | u
    · rw [e] at h4
      have h6 := hat (.lit (.bool true))
      rw [Maps.atKey_of_not_has h4, hy] at h6
      cases h6
    · have h6 := hat (.lit (.string []))
      rw [h5 u e, hy] at h6
      simp only [DataW.lit.injEq, Lit.string.injEq] at h6
      rw [h6]
   rw [str_of s, str_of x]
   exact hMore s.data.toList x.data.toList w' cnt' hF ⟨D, _, hr, h2, h3⟩ hlt hgr hsz (by rw [← str_of s, ← str_of x]; exact hen)
end
end Go.Proofs.YtijhamllnnilbaaGreatDoor.Ha
