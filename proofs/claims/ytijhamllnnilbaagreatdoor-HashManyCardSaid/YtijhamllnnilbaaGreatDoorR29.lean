/- Lemmas of the claim, in their order:
- Maps from numbers: a set of pages that were reached; numbers by pages.
- A bucket parted in two, in the table. No program in sight.
-/
import Derived.Test.YtijhamllnnilbaaGreatDoorR28
import Derived.Maps.OwnSet
import Derived.Test.YtijhamllnnilbaaGreatDoorR26
set_option linter.unusedVariables false
set_option linter.unusedSimpArgs false
namespace Go.Proofs.YtijhamllnnilbaaGreatDoor.Ha
open Go.RowKit Go.Proofs.YtijhamllnnilbaaGreatDoor.Mem Go.Proofs.YtijhamllnnilbaaGreatDoor.Pg Go.Proofs.YtijhamllnnilbaaGreatDoor.Kp Go.Proofs.YtijhamllnnilbaaGreatDoor.Sp Go.Proofs.YtijhamllnnilbaaGreatDoor.Gr
set_option linter.unusedVariables false
set_option linter.unusedSimpArgs false
theorem zero_bool (w : World) : (zeroValue 4).run Tryz.prog w = .ok (.bool false) w := by kernel_rfl
theorem zero_int (w : World) : (zeroValue 3).run Tryz.prog w = .ok (.int .i64 0) w := by kernel_rfl
def HadIs (w : World) (b : Nat) (S : Int → Bool) (m : Nat) : Prop :=
 ∃ D : DataW Unit, w.ownsMap Tryz.prog 3 (plainElem Tryz.prog 4) b m D ∧ Maps.size D = m ∧ ∀ i, Maps.has D (kl i) = S i ∧ (S i = true → D.atKey (kl i) (.lit (.bool false)) = .lit (.bool true))
theorem HadIs.block {w w' : World} {b m : Nat} {S : Int → Bool} (h : HadIs w b S m) (e : w'.heap[b]? = w.heap[b]?) : HadIs w' b S m := by
 obtain ⟨D, h1, h2⟩ := h
 exact ⟨D, owns_block h1 e, h2⟩
theorem HadIs.lt {w : World} {b m : Nat} {S : Int → Bool} (h : HadIs w b S m) : b < w.heap.size := by
 obtain ⟨D, h1, h2⟩ := h
 exact h1.lt
theorem HadIs.below {w w' : World} {b m : Nat} {S : Int → Bool} (h : HadIs w b S m) (k : Below w.heap.size w w') : HadIs w' b S m := h.block (k.block _ h.lt)
theorem HadIs.made (w : World) : HadIs (w.alloc (.map #[] 0)) w.heap.size (fun _ => false) 0 :=
 ⟨.map [], World.ownsMap_made w _ _ _, rfl, fun i => ⟨rfl, fun h => by cases h⟩⟩
theorem bool_inv' {P : Program} {e : TypeId} (he : P.underlying e = some .bool) {v : Value} {z : DataW Unit × List MemPlace} (h : plainElem P e v = some z) : ∃ x, v = .bool x ∧ z = (.lit (.bool x), []) := by
 unfold plainElem at h
 rw [he] at h
 cases v <;> simp at h
 exact ⟨_, rfl, h.symm⟩
theorem bool_inv {v : Value} {z : DataW Unit × List MemPlace} (h : plainElem Tryz.prog 4 v = some z) : ∃ x, v = .bool x ∧ z = (.lit (.bool x), []) := bool_inv' Tryz.underlying4 h
theorem HadIs.look {w : World} {b m : Nat} {S : Int → Bool} (h : HadIs w b S m) (i : Int) (hi : (Lit.int .i64 i).wf = true) :
 (Instr.lookup 149 (.map (some b)) (.int .i64 i) false).run Tryz.prog w = .ok (.bool (S i)) w := by
 obtain ⟨D, h1, h2, h3⟩ := h
 obtain ⟨v, ps, hrun, hv⟩ := h1.lookup ikeyed Tryz.underlying149 (zero_bool w) (plainElem_bool Tryz.underlying4 false) (Maps.keyOf_int_mk Tryz.underlying3 hi)
 obtain ⟨x, rfl, hx⟩ := bool_inv hv
 have hx1 : D.atKey (kl i) (.lit (.bool false)) = .lit (.bool x) := (Prod.mk.inj hx).1
 obtain ⟨h4, h5⟩ := h3 i
 rcases e : S i with _ | _
 · rw [e] at h4
   rw [Maps.atKey_of_not_has h4] at hx1
   simp only [DataW.lit.injEq, Lit.bool.injEq] at hx1
   rw [← hx1] at hrun
   exact hrun
 · rw [h5 e] at hx1
   simp only [DataW.lit.injEq, Lit.bool.injEq] at hx1
   rw [← hx1] at hrun
   exact hrun
theorem HadIs.put {w : World} {b m : Nat} {S : Int → Bool} (h : HadIs w b S m) (i : Int) (hi : (Lit.int .i64 i).wf = true) (hm : m < 1000000) :
 ∃ w', (Instr.mapUpdate 149 (.map (some b)) (.int .i64 i) (.bool true)).run Tryz.prog w = .ok () w' ∧ HadIs w' b (fun j => j == i || S j) (if S i = true then m else m + 1) ∧ w.grownBy w' (some b) := by
 obtain ⟨D, h1, h2, h3⟩ := h
 have hkey := Maps.keyOf_int_mk Tryz.underlying3 hi
 have hisk : WideAt.IsKeyLit (kl i) := ikeyed.key hkey
 obtain ⟨w', hrun, hown, hg⟩ := h1.update ikeyed Tryz.underlying149 (by unfold maxLen; omega) hkey (plainElem_bool Tryz.underlying4 true)
 have htidy := h1.tidy ikeyed
 have hsz := Maps.size_put (k := kl i) htidy (.lit (.bool true))
 rw [(h3 i).1, h2] at hsz
 refine ⟨w', hrun, ⟨D.put (kl i) (.lit (.bool true)), ?_, hsz, fun j => ?_⟩, hg⟩
 · rw [← hsz]; exact owns_tight hown
 · by_cases hj : j = i
   · subst hj
     rw [Maps.has_put_same htidy.isMap hisk, Maps.atKey_put_same htidy.isMap hisk]
     simp
   · rw [Maps.has_put_other (kl_ne hj), Maps.atKey_put_other (kl_ne hj), (h3 j).1]
     simp only [beq_eq_false_iff_ne.2 hj, Bool.false_or]
     exact ⟨trivial, (h3 j).2⟩
theorem HadIs.len {w : World} {b m : Nat} {S : Int → Bool} (h : HadIs w b S m) (ty : TypeId) : (Builtin.len_ #[149] ty #[.map (some b)]).run Tryz.prog w = .ok (.int .i64 m) w := by
 obtain ⟨D, h1, h2, _⟩ := h
 rw [← h2]
 exact h1.len Tryz.underlying149 ty
theorem HadIs.drop {w : World} {b m : Nat} {S : Int → Bool} (h : HadIs w b S m) (i : Int) (hi : (Lit.int .i64 i).wf = true) (ty : TypeId) :
 ∃ w', (Builtin.delete_ #[149, 3] ty #[.map (some b), .int .i64 i]).run Tryz.prog w = .ok (.tuple #[]) w' ∧ HadIs w' b (fun j => !(j == i) && S j) (if S i = true then m - 1 else m) ∧ w.grownBy w' (some b) := by
 obtain ⟨D, h1, h2, h3⟩ := h
 have hkey := Maps.keyOf_int_mk Tryz.underlying3 hi
 have htidy := h1.tidy ikeyed
 obtain ⟨w', hrun, hown, hg⟩ := h1.drop ikeyed Tryz.underlying149 hkey ty
 have hsz := Maps.size_del (k := kl i) htidy
 rw [(h3 i).1, h2] at hsz
 have hsz2 : Maps.size (D.del (kl i)) = if S i = true then m - 1 else m := by
  by_cases e : S i = true
  · rw [if_pos e] at hsz ⊢; omega
  · rw [if_neg e] at hsz ⊢; omega
 refine ⟨w', hrun, ⟨D.del (kl i), ?_, hsz2, fun j => ?_⟩, hg.grown⟩
 · rw [← hsz2]; exact owns_tight hown
 · by_cases hj : j = i
   · subst hj
     rw [Maps.has_del_same]
     simp
   · rw [Maps.has_del_other (kl_ne hj), Maps.atKey_del_other (kl_ne hj), (h3 j).1]
     simp only [beq_eq_false_iff_ne.2 hj, Bool.not_false, Bool.true_and]
     exact ⟨trivial, (h3 j).2⟩
structure Rch (w : World) (rb mb : Nat) (V : List Nat) : Prop where
 blk : w.heap[rb]? = some (.cells #[.map (some mb), .bool false] 151 (0, 0))
 map : HadIs w mb (fun i => decide (i ∈ toI V)) V.length
 nd : V.Nodup
 ne : rb ≠ mb
theorem Rch.below {w w' : World} {rb mb : Nat} {V : List Nat} (h : Rch w rb mb V) (k : Below w.heap.size w w') : Rch w' rb mb V := ⟨blk_keep h.blk k, h.map.below k, h.nd, h.ne⟩
theorem Rch.keep {S : Nat → Prop} {w w' : World} {rb mb : Nat} {V : List Nat} (h : Rch w rb mb V) (k : Keep S w w') (h1 : ¬ S rb) (h2 : ¬ S mb) : Rch w' rb mb V :=
 ⟨k.blk h.blk h1, h.map.block (k.block _ h.map.lt h2), h.nd, h.ne⟩
theorem toI_mem {V : List Nat} {m : Nat} : ((m : Nat) : Int) ∈ toI V ↔ m ∈ V := by
 unfold toI
 rw [List.mem_map]
 constructor
 · rintro ⟨a, h1, h2⟩
   have : a = m := by omega
   exact this ▸ h1
 · exact fun h => ⟨m, h, rfl⟩
def NumIs (w : World) (b : Nat) (F : Int → Option Int) (m : Nat) : Prop :=
 ∃ D : DataW Unit, w.ownsMap Tryz.prog 3 (plainElem Tryz.prog 3) b m D ∧ (∀ i, Maps.has D (kl i) = (F i).isSome) ∧ ∀ i y, F i = some y → D.atKey (kl i) (.lit (.int .i64 0)) = .lit (.int .i64 y)
theorem NumIs.block {w w' : World} {b m : Nat} {F : Int → Option Int} (h : NumIs w b F m) (e : w'.heap[b]? = w.heap[b]?) : NumIs w' b F m := by
 obtain ⟨D, h1, h2⟩ := h
 exact ⟨D, owns_block h1 e, h2⟩
theorem NumIs.lt {w : World} {b m : Nat} {F : Int → Option Int} (h : NumIs w b F m) : b < w.heap.size := by
 obtain ⟨D, h1, h2⟩ := h
 exact h1.lt
theorem NumIs.below {w w' : World} {b m : Nat} {F : Int → Option Int} (h : NumIs w b F m) (k : Below w.heap.size w w') : NumIs w' b F m := h.block (k.block _ h.lt)
theorem NumIs.made (w : World) : NumIs (w.alloc (.map #[] 0)) w.heap.size (fun _ => none) 0 :=
 ⟨.map [], World.ownsMap_made w _ _ _, fun i => rfl, fun i y h => by cases h⟩
theorem NumIs.look {w : World} {b m : Nat} {F : Int → Option Int} (h : NumIs w b F m) (i : Int) (hi : (Lit.int .i64 i).wf = true) :
 (Instr.lookup 234 (.map (some b)) (.int .i64 i) true).run Tryz.prog w = .ok (.tuple #[.int .i64 ((F i).getD 0), .bool (F i).isSome]) w := by
 obtain ⟨D, h1, h2, h3⟩ := h
 obtain ⟨v, ps, hrun, hv⟩ := h1.look_ok ikeyed Tryz.underlying234 (zero_int w) (plainElem_int Tryz.underlying3 (by decide)) (Maps.keyOf_int_mk Tryz.underlying3 hi)
 obtain ⟨x, rfl, hx, _⟩ := plainElem_int_inv Tryz.underlying3 hv
 have hx1 : D.atKey (kl i) (.lit (.int .i64 0)) = .lit (.int .i64 x) := (Prod.mk.inj hx).1
 rw [h2 i] at hrun
 rcases e : F i with _ | y
 · rw [e] at hrun
   have h4 : Maps.has D (kl i) = false := by rw [h2 i, e]; rfl
   rw [Maps.atKey_of_not_has h4] at hx1
   simp only [DataW.lit.injEq, Lit.int.injEq, true_and] at hx1
   rw [← hx1] at hrun
   exact hrun
 · rw [e] at hrun
   rw [h3 i y e] at hx1
   simp only [DataW.lit.injEq, Lit.int.injEq, true_and] at hx1
   rw [← hx1] at hrun
   exact hrun
def updI (F : Int → Option Int) (i y : Int) : Int → Option Int := fun j => if j = i then some y else F j
theorem NumIs.put {w : World} {b m : Nat} {F : Int → Option Int} (h : NumIs w b F m) (i y : Int) (hi : (Lit.int .i64 i).wf = true) (hy : (Lit.int .i64 y).wf = true) (hm : m < 1000000) :
 ∃ w', (Instr.mapUpdate 234 (.map (some b)) (.int .i64 i) (.int .i64 y)).run Tryz.prog w = .ok () w' ∧ NumIs w' b (updI F i y) (m + 1) ∧ w.grownBy w' (some b) := by
 obtain ⟨D, h1, h2, h3⟩ := h
 have hkey := Maps.keyOf_int_mk Tryz.underlying3 hi
 have hisk : WideAt.IsKeyLit (kl i) := ikeyed.key hkey
 obtain ⟨w', hrun, hown, hg⟩ := h1.update ikeyed Tryz.underlying234 (by unfold maxLen; omega) hkey (plainElem_int Tryz.underlying3 hy)
 have htidy := h1.tidy ikeyed
 refine ⟨w', hrun, ⟨D.put (kl i) (.lit (.int .i64 y)), hown, fun j => ?_, fun j z => ?_⟩, hg⟩
 · unfold updI
   by_cases hj : j = i
   · subst hj
     rw [Maps.has_put_same htidy.isMap hisk, if_pos rfl]; rfl
   · rw [Maps.has_put_other (kl_ne hj), if_neg hj]; exact h2 j
 · unfold updI
   by_cases hj : j = i
   · subst hj
     rw [Maps.atKey_put_same htidy.isMap hisk, if_pos rfl]
     intro e
     rw [Option.some.inj e]
   · rw [Maps.atKey_put_other (kl_ne hj), if_neg hj]; exact h3 j z
end Go.Proofs.YtijhamllnnilbaaGreatDoor.Ha
namespace Go.Proofs.YtijhamllnnilbaaGreatDoor.Ha
open Go.RowKit Go.Proofs.YtijhamllnnilbaaGreatDoor.Mem Go.Proofs.YtijhamllnnilbaaGreatDoor.Pg Go.Proofs.YtijhamllnnilbaaGreatDoor.Gr Go.Proofs.YtijhamllnnilbaaGreatDoor.Sp
set_option linter.unusedVariables false
set_option linter.unusedSimpArgs false
theorem entsF_twice (D : Nat) (t : Tri) (h : t.height ≤ D) : entsF (D + 1) t = entsF D t ++ entsF D t := by
 have hp : 2 ^ (D + 1) = 2 ^ D * 2 := Nat.pow_succ ..
 refine List.ext_getElem? fun i => ?_
 by_cases hi : i < 2 ^ (D + 1)
 · rw [entsF_get _ _ _ hi]
   have hm := (t.at_mod i D (Nat.le_trans (t.dep_le i) h)).1
   by_cases h1 : i < 2 ^ D
   · rw [List.getElem?_append_left (by rw [entsF_len]; exact h1), entsF_get _ _ _ h1]
   · have hlt : i - 2 ^ D < 2 ^ D := by omega
     rw [List.getElem?_append_right (by rw [entsF_len]; omega), entsF_len, entsF_get _ _ _ hlt]
     have e : i % 2 ^ D = i - 2 ^ D := by rw [Nat.mod_eq_sub_mod (by omega), Nat.mod_eq_of_lt hlt]
     rw [e] at hm
     rw [hm]
 · rw [List.getElem?_eq_none (by rw [entsF_len]; omega), List.getElem?_eq_none (by rw [List.length_append, entsF_len]; omega)]
def halfT (d : Nat) (b : Lf) (m : Nat) : Tri := .node (.leaf ⟨b.n, b.cs.filter (bitF d), []⟩) (.leaf ⟨m, b.cs.filter (fun c => !bitF d c), []⟩)
theorem half_at (d : Nat) (b : Lf) (m i : Nat) : (halfT d b m).at' i = if i % 2 = 0 then ⟨b.n, b.cs.filter (bitF d), []⟩ else ⟨m, b.cs.filter (fun c => !bitF d c), []⟩ := rfl
theorem half_dep (d : Nat) (b : Lf) (m i : Nat) : (halfT d b m).dep i = 1 := by
 unfold halfT
 rw [Tri.dep_node]
 split <;> rfl
theorem pow_split (i d : Nat) : i % 2 ^ (d + 1) = i % 2 ^ d + 2 ^ d * (i / 2 ^ d % 2) := Nat.mod_pow_succ ..
theorem entsF_split (D : Nat) (t : Tri) (h m : Nat) : entsF D (t.upd h (t.dep h) (halfT (t.dep h) (t.at' h) m)) = Dr.setTo (entsF D t) (2 ^ (t.dep h + 1)) ((h % 2 ^ t.dep h + 2 ^ t.dep h : Nat) : Int) m (entsF D t).length := by
 refine List.ext_getElem (by rw [Dr.setTo_len, entsF_len, entsF_len]) fun i h1 h2 => ?_
 have hi : i < 2 ^ D := by rw [entsF_len] at h1; exact h1
 have e1 := entsF_get D (t.upd h (t.dep h) (halfT (t.dep h) (t.at' h) m)) i hi
 rw [List.getElem?_eq_getElem h1] at e1
 injection e1 with e1
 have e2 := Dr.setTo_get (entsF D t) (2 ^ (t.dep h + 1)) ((h % 2 ^ t.dep h + 2 ^ t.dep h : Nat) : Int) m (entsF D t).length i (by rw [entsF_len]; exact hi)
 rw [List.getD_eq_getElem?_getD, List.getElem?_eq_getElem h2, Option.getD_some] at e2
 rw [e1, e2, Tri.at_upd _ _ t h i (Nat.le_refl _), List.getD_eq_getElem?_getD, entsF_get _ _ _ hi, Option.getD_some, entsF_len]
 have e3 := pow_split i (t.dep h)
 have e4 : h % 2 ^ t.dep h < 2 ^ t.dep h := Nat.mod_lt _ (Nat.two_pow_pos _)
 have e5 : i % 2 ^ t.dep h < 2 ^ t.dep h := Nat.mod_lt _ (Nat.two_pow_pos _)
 by_cases hs : i % 2 ^ t.dep h = h % 2 ^ t.dep h
 · rw [if_pos hs, half_at]
   rcases Nat.mod_two_eq_zero_or_one (i / 2 ^ t.dep h) with hb | hb
   · rw [if_pos hb, if_neg]
     · rw [(at_same t h i hs).1]
     · rintro ⟨_, h3⟩
       have h4 : i % 2 ^ (t.dep h + 1) = h % 2 ^ t.dep h + 2 ^ t.dep h := by exact_mod_cast h3
       rw [e3, hb, Nat.mul_zero] at h4
       omega
   · rw [if_neg (by omega), if_pos ⟨hi, by rw [e3, hb, hs, Nat.mul_one]⟩]
 · rw [if_neg hs, if_neg]
   rintro ⟨_, h3⟩
   have h4 : i % 2 ^ (t.dep h + 1) = h % 2 ^ t.dep h + 2 ^ t.dep h := by exact_mod_cast h3
   rw [e3] at h4
   rcases Nat.mod_two_eq_zero_or_one (i / 2 ^ t.dep h) with hb | hb
   · rw [hb, Nat.mul_zero] at h4; omega
   · rw [hb, Nat.mul_one] at h4; omega
theorem cells_of_cs {b : Lf} (h : b.ov = []) : b.cells = b.cs := by unfold Lf.cells Lf.pgs; rw [h]; simp
theorem nums_of_n {b : Lf} (h : b.ov = []) : b.nums = [b.n] := by unfold Lf.nums Lf.pgs; rw [h]; rfl
theorem look_split (t : Tri) (h m : Nat) (hov : (t.at' h).ov = []) (k : List UInt8) : lookT (t.upd h (t.dep h) (halfT (t.dep h) (t.at' h) m)) k = lookT t k := by
 unfold lookT
 rw [Tri.at_upd _ _ t h _ (Nat.le_refl _)]
 by_cases hs : sumF k % 2 ^ t.dep h = h % 2 ^ t.dep h
 · rw [if_pos hs, (at_same t h _ hs).1, half_at, cells_of_cs hov]
   have one : ∀ (p : Cel → Bool), (∀ c : Cel, c.key = k → p c = true) → lookF k ((t.at' h).cs.filter p) = lookF k (t.at' h).cs := fun p hp => by
    unfold lookF
    rw [List.find?_filter]
    congr 1
    funext c
    by_cases e : c.key = k
    · simp [e, hp c e]
    · simp [e]
   rcases Nat.mod_two_eq_zero_or_one (sumF k / 2 ^ t.dep h) with hb | hb
   · rw [if_pos hb, cells_of_cs rfl]
     exact one _ (fun c e => by simp [bitF, e, hb])
   · rw [if_neg (by omega), cells_of_cs rfl]
     exact one _ (fun c e => by simp [bitF, e, hb])
 · rw [if_neg hs]
theorem szs_filter_le (p : Cel → Bool) (l : List Cel) : szs (l.filter p) ≤ szs l := by
 induction l with
 | nil => exact Nat.le_refl _
 | cons a r ih =>
  by_cases h : p a = true
  · rw [List.filter_cons_of_pos h]; simp [szs] at ih ⊢; omega
  · rw [List.filter_cons_of_neg h]; simp [szs] at ih ⊢; omega
theorem Fits.filter {l : List Cel} (h : Fits l) (p : Cel → Bool) : Fits (l.filter p) :=
 ⟨fun c hc => h.ok c (List.mem_filter.1 hc).1, List.Pairwise.filter _ h.lt, Nat.le_trans (szs_filter_le p l) h.room⟩
variable {n D : Nat} {pg : Nat → Pag} {t : Tri} {ml : List UInt8} {X : List Nat}
def splitPg (pg : Nat → Pag) (md mx : Int) (ml : List UInt8) (D' : Nat) (t : Tri) (h m : Nat) : Nat → Pag :=
 updN (updN (updN (updN pg 1 ⟨2, md, mx, ml.set m 1⟩) 0 (dirF D' (t.upd h (t.dep h) (halfT (t.dep h) (t.at' h) m)))) (t.at' h).n ⟨3, ((t.dep h + 1 : Nat) : Int), 0, bodyF ((t.at' h).cs.filter (bitF (t.dep h)))⟩) m ⟨3, ((t.dep h + 1 : Nat) : Int), 0, bodyF ((t.at' h).cs.filter (fun c => !bitF (t.dep h) c))⟩
theorem Hs.split (H : Hs n pg D t ml X) (h m : Nat) (hov : (t.at' h).ov = []) (hi : takeI 2 ml = m) {md mx : Int} (hp1 : pg 1 = ⟨2, md, mx, ml⟩) (D' : Nat) (hD : D ≤ D') (hd : t.dep h + 1 ≤ D') (h5 : D' ≤ 5) :
 Hs n (splitPg pg md mx ml D' t h m) D' (t.upd h (t.dep h) (halfT (t.dep h) (t.at' h) m)) (ml.set m 1) X ∧ m ∉ numsF t.leaves ∧ 2 ≤ m ∧ m < n := by
 obtain ⟨f2, fn, fl, fX, fm, fb⟩ := H.free hi
 have T := H.tb
 have hk : t.dep h ≤ t.dep h := Nat.le_refl _
 have hsub : (t.sub h (t.dep h)).leaves = [t.at' h] := by rw [Tri.sub_dep]; rfl
 have n1 : ∀ b : Lf, numsF [b] = b.nums := fun b => by simp [numsF]
 have hbn := nums_of_n hov
 have hbm : (t.at' h).n ∈ numsF t.leaves := numsF_mem (t.at_mem h) (Lf.n_mem _)
 have hbr := T.rng _ hbm
 have hne : (t.at' h).n ≠ m := fun e => fl (e ▸ hbm)
 have hcs := cells_of_cs hov
 have hleaves : (halfT (t.dep h) (t.at' h) m).leaves = [⟨(t.at' h).n, (t.at' h).cs.filter (bitF (t.dep h)), []⟩, ⟨m, (t.at' h).cs.filter (fun c => !bitF (t.dep h) c), []⟩] := rfl
 have hnum2 : numsF (halfT (t.dep h) (t.at' h) m).leaves = [(t.at' h).n, m] := rfl
 have hfit : Fits (t.at' h).cs := T.fits _ (t.at_mem h) ((t.at' h).n, (t.at' h).cs) (List.mem_cons_self ..)
 have hlead : ∀ c, c ∈ (t.at' h).cs → sumF c.key % 2 ^ t.dep h = h % 2 ^ t.dep h := fun c hc => lead_mod H h (by rw [hcs]; exact hc)
 have hkeys : ((t.at' h).cs.map Cel.key).Nodup := by have := T.keys _ (t.at_mem h); rwa [hcs] at this
 have P : Part n (splitPg pg md mx ml D' t h m) t h (t.dep h) (halfT (t.dep h) (t.at' h) m) := by
  refine ⟨fun i q hq => ?_, fun b hb p hp => ?_, ?_, fun y hy => ?_, fun y hy => ?_, fun b hb c hc => ?_, fun b hb => ?_⟩
  · rw [half_at, half_dep] at hq
    by_cases e : i % 2 = 0
    · rw [if_pos e] at hq
      simp [Lf.pags, Lf.pgs, pagsF, nextF] at hq
      subst hq
      unfold splitPg
      rw [updN_other _ _ hne, updN_same]
      simp
    · rw [if_neg e] at hq
      simp [Lf.pags, Lf.pgs, pagsF, nextF] at hq
      subst hq
      unfold splitPg
      rw [updN_same]
      simp
  · rw [hleaves] at hb
    rcases List.mem_cons.1 hb with rfl | hb
    · rcases List.mem_cons.1 hp with rfl | hp
      · exact hfit.filter _
      · cases hp
    · rw [List.mem_singleton] at hb
      subst hb
      rcases List.mem_cons.1 hp with rfl | hp
      · exact hfit.filter _
      · cases hp
  · rw [hnum2]; simp [hne]
  · rw [hnum2] at hy
    rcases List.mem_cons.1 hy with rfl | hy
    · exact hbr
    · rw [List.mem_singleton.1 hy]; exact ⟨f2, fn⟩
  · rw [hnum2] at hy
    rw [hsub, n1, hbn]
    rcases List.mem_cons.1 hy with rfl | hy
    · exact .inl (List.mem_cons_self ..)
    · rw [List.mem_singleton.1 hy]; exact .inr fl
  · rw [hleaves] at hb
    rcases List.mem_cons.1 hb with rfl | hb
    · rw [cells_of_cs rfl] at hc
      have h1 := List.mem_filter.1 hc
      refine ⟨hlead c h1.1, ?_⟩
      rw [half_at, if_pos (by simpa [bitF] using h1.2)]
    · rw [List.mem_singleton] at hb
      subst hb
      rw [cells_of_cs rfl] at hc
      have h1 := List.mem_filter.1 hc
      refine ⟨hlead c h1.1, ?_⟩
      rw [half_at, if_neg (by simpa [bitF] using h1.2)]
  · rw [hleaves] at hb
    rcases List.mem_cons.1 hb with rfl | hb
    · rw [cells_of_cs rfl]; exact (List.filter_sublist.map _).nodup hkeys
    · rw [List.mem_singleton] at hb
      subst hb
      rw [cells_of_cs rfl]; exact (List.filter_sublist.map _).nodup hkeys
 obtain ⟨L, R, e1, e2⟩ := Tri.leaves_upd (t.dep h) t h hk
 rw [hsub] at e1
 have e3 := e2 (halfT (t.dep h) (t.at' h) m)
 have hmem : ∀ y, y ∈ numsF (t.upd h (t.dep h) (halfT (t.dep h) (t.at' h) m)).leaves ↔ y ∈ numsF t.leaves ∨ y = m := fun y => by
  rw [e3, e1]
  simp only [numsF_append, n1, hbn, hnum2, List.mem_append, List.mem_cons, List.not_mem_nil, or_false]
  constructor
  · rintro (h1 | (h1 | h1) | h1)
    · exact .inl (.inl h1)
    · exact .inl (.inr (.inl h1))
    · exact .inr h1
    · exact .inl (.inr (.inr h1))
  · rintro ((h1 | h1 | h1) | h1)
    · exact .inl h1
    · exact .inr (.inl (.inl h1))
    · exact .inr (.inr h1)
    · exact .inr (.inl (.inr h1))
 have hother : ∀ y, y ≠ 1 → y ≠ 0 → y ≠ (t.at' h).n → y ≠ m → splitPg pg md mx ml D' t h m y = pg y := fun y a b c d => by
  unfold splitPg
  rw [updN_other _ _ d, updN_other _ _ c, updN_other _ _ b, updN_other _ _ a]
 refine ⟨⟨T.upd hk P hD (by show t.dep h + (max 0 0 + 1) ≤ D'; omega) h5 ?_ (fun y h1 h2 => ?_), ⟨md, mx, ?_⟩, fm, fun y h2 hy => ?_, H.xr, fun y hy h1 => ?_, H.xn⟩, fl, f2, fn⟩
 · unfold splitPg
   rw [updN_other _ _ (by omega), updN_other _ _ (by omega), updN_same]
 · have h3 := T.rng y h1
   rw [hsub, n1, hbn, List.mem_singleton] at h2
   exact hother y (by omega) (by omega) h2 (fun e => fl (e ▸ h1))
 · unfold splitPg
   rw [updN_other _ _ (by omega), updN_other _ _ (by omega), updN_other _ _ (by omega), updN_same]
 · rw [fb y, hmem y]
   by_cases e : y = m
   · rw [if_pos e]; exact ⟨fun _ => .inl (.inr e), fun _ => rfl⟩
   · rw [if_neg e, H.used y h2 hy]
     constructor
     · rintro (h3 | h3); exact .inl (.inl h3); exact .inr h3
     · rintro ((h3 | h3) | h3); exact .inl h3; exact absurd h3 e; exact .inr h3
 · rcases (hmem y).1 h1 with h3 | h3
   · exact H.xd y hy h3
   · exact fX (h3 ▸ hy)
theorem split_len (t : Tri) (h m : Nat) (hov : (t.at' h).ov = []) : (numsF (t.upd h (t.dep h) (halfT (t.dep h) (t.at' h) m)).leaves).length = (numsF t.leaves).length + 1 := by
 have h1 := numsF_upd_len t h (t.dep h) (halfT (t.dep h) (t.at' h) m) (Nat.le_refl _)
 rw [Tri.sub_dep] at h1
 have h2 : (numsF (Tri.leaf (t.at' h)).leaves).length = 1 := by
  show (numsF [t.at' h]).length = 1
  simp [numsF, nums_of_n hov]
 have h3 : (numsF (halfT (t.dep h) (t.at' h) m).leaves).length = 2 := rfl
 omega
end Go.Proofs.YtijhamllnnilbaaGreatDoor.Ha
