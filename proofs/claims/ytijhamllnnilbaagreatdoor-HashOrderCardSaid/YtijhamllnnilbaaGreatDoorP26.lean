/- Lemmas of the claim, in their order:
- Maps from numbers: a set of pages that were reached; numbers by pages.
- The contract of bucket.Split.
-/
import Derived.Test.YtijhamllnnilbaaGreatDoorP24
import Derived.Maps.OwnSet
import Derived.Test.YtijhamllnnilbaaGreatDoorP25
set_option linter.unusedVariables false
set_option linter.unusedSimpArgs false
namespace Go.Proofs.YtijhamllnnilbaaGreatDoor.Ha
open Go.RowKit Go.Proofs.YtijhamllnnilbaaGreatDoor.Mem Go.Proofs.YtijhamllnnilbaaGreatDoor.Pg Go.Proofs.YtijhamllnnilbaaGreatDoor.Kp Go.Proofs.YtijhamllnnilbaaGreatDoor.Sp Go.Proofs.YtijhamllnnilbaaGreatDoor.Gr
set_option linter.unusedVariables false
set_option linter.unusedSimpArgs false
theorem zero_bool (w : World) : (zeroValue 4).run Tryz.prog w = .ok (.bool false) w := by kernel_rfl
theorem zero_int (w : World) : (zeroValue 3).run Tryz.prog w = .ok (.int .i64 0) w := by kernel_rfl
def HadIs (w : World) (b : Nat) (S : Int → Bool) (m : Nat) : Prop :=
 ∃ D : DataW Unit, w.ownsMap Tryz.prog 3 (plainElem Tryz.prog 4) b m D ∧ Maps.size D = m ∧ ∀ i, Maps.has D (kl i) = S i ∧ (S i = true → D.atKey (kl i) (.lit (.bool false)) = .lit (.bool true))
theorem HadIs.block {w w' : World} {b m : Nat} {S : Int → Bool} (h : HadIs w b S m) (e : w'.heap[b]? = w.heap[b]?) : HadIs w' b S m := by
 obtain ⟨D, h1, h2⟩ := h
 exact ⟨D, owns_block h1 e, h2⟩
theorem HadIs.lt {w : World} {b m : Nat} {S : Int → Bool} (h : HadIs w b S m) : b < w.heap.size := by
 obtain ⟨D, h1, h2⟩ := h
 exact h1.lt
theorem HadIs.below {w w' : World} {b m : Nat} {S : Int → Bool} (h : HadIs w b S m) (k : Below w.heap.size w w') : HadIs w' b S m := h.block (k.block _ h.lt)
theorem HadIs.made (w : World) : HadIs (w.alloc (.map #[] 0)) w.heap.size (fun _ => false) 0 :=
 ⟨.map [], World.ownsMap_made w _ _ _, rfl, fun i => ⟨rfl, fun h => by cases h⟩⟩
theorem bool_inv' {P : Program} {e : TypeId} (he : P.underlying e = some .bool) {v : Value} {z : DataW Unit × List MemPlace} (h : plainElem P e v = some z) : ∃ x, v = .bool x ∧ z = (.lit (.bool x), []) := by
 unfold plainElem at h
 rw [he] at h
 cases v <;> simp at h
 exact ⟨_, rfl, h.symm⟩
theorem bool_inv {v : Value} {z : DataW Unit × List MemPlace} (h : plainElem Tryz.prog 4 v = some z) : ∃ x, v = .bool x ∧ z = (.lit (.bool x), []) := bool_inv' Tryz.underlying4 h
theorem HadIs.look {w : World} {b m : Nat} {S : Int → Bool} (h : HadIs w b S m) (i : Int) (hi : (Lit.int .i64 i).wf = true) :
 (Instr.lookup 149 (.map (some b)) (.int .i64 i) false).run Tryz.prog w = .ok (.bool (S i)) w := by
 obtain ⟨D, h1, h2, h3⟩ := h
 obtain ⟨v, ps, hrun, hv⟩ := h1.lookup ikeyed Tryz.underlying149 (zero_bool w) (plainElem_bool Tryz.underlying4 false) (Maps.keyOf_int_mk Tryz.underlying3 hi)
 obtain ⟨x, rfl, hx⟩ := bool_inv hv
 have hx1 : D.atKey (kl i) (.lit (.bool false)) = .lit (.bool x) := (Prod.mk.inj hx).1
 obtain ⟨h4, h5⟩ := h3 i
 rcases e : S i with _ | _
 · rw [e] at h4
   rw [Maps.atKey_of_not_has h4] at hx1
   simp only [DataW.lit.injEq, Lit.bool.injEq] at hx1
   rw [← hx1] at hrun
   exact hrun
 · rw [h5 e] at hx1
   simp only [DataW.lit.injEq, Lit.bool.injEq] at hx1
   rw [← hx1] at hrun
   exact hrun
theorem HadIs.put {w : World} {b m : Nat} {S : Int → Bool} (h : HadIs w b S m) (i : Int) (hi : (Lit.int .i64 i).wf = true) (hm : m < 1000000) :
 ∃ w', (Instr.mapUpdate 149 (.map (some b)) (.int .i64 i) (.bool true)).run Tryz.prog w = .ok () w' ∧ HadIs w' b (fun j => j == i || S j) (if S i = true then m else m + 1) ∧ w.grownBy w' (some b) := by
 obtain ⟨D, h1, h2, h3⟩ := h
 have hkey := Maps.keyOf_int_mk Tryz.underlying3 hi
 have hisk : WideAt.IsKeyLit (kl i) := ikeyed.key hkey
 obtain ⟨w', hrun, hown, hg⟩ := h1.update ikeyed Tryz.underlying149 (by unfold maxLen; omega) hkey (plainElem_bool Tryz.underlying4 true)
 have htidy := h1.tidy ikeyed
 have hsz := Maps.size_put (k := kl i) htidy (.lit (.bool true))
 rw [(h3 i).1, h2] at hsz
 refine ⟨w', hrun, ⟨D.put (kl i) (.lit (.bool true)), ?_, hsz, fun j => ?_⟩, hg⟩
 · rw [← hsz]; exact owns_tight hown
 · by_cases hj : j = i
   · subst hj
     rw [Maps.has_put_same htidy.isMap hisk, Maps.atKey_put_same htidy.isMap hisk]
     simp
   · rw [Maps.has_put_other (kl_ne hj), Maps.atKey_put_other (kl_ne hj), (h3 j).1]
     simp only [beq_eq_false_iff_ne.2 hj, Bool.false_or]
     exact ⟨trivial, (h3 j).2⟩
theorem HadIs.len {w : World} {b m : Nat} {S : Int → Bool} (h : HadIs w b S m) (ty : TypeId) : (Builtin.len_ #[149] ty #[.map (some b)]).run Tryz.prog w = .ok (.int .i64 m) w := by
 obtain ⟨D, h1, h2, _⟩ := h
 rw [← h2]
 exact h1.len Tryz.underlying149 ty
theorem HadIs.drop {w : World} {b m : Nat} {S : Int → Bool} (h : HadIs w b S m) (i : Int) (hi : (Lit.int .i64 i).wf = true) (ty : TypeId) :
 ∃ w', (Builtin.delete_ #[149, 3] ty #[.map (some b), .int .i64 i]).run Tryz.prog w = .ok (.tuple #[]) w' ∧ HadIs w' b (fun j => !(j == i) && S j) (if S i = true then m - 1 else m) ∧ w.grownBy w' (some b) := by
 obtain ⟨D, h1, h2, h3⟩ := h
 have hkey := Maps.keyOf_int_mk Tryz.underlying3 hi
 have htidy := h1.tidy ikeyed
 obtain ⟨w', hrun, hown, hg⟩ := h1.drop ikeyed Tryz.underlying149 hkey ty
 have hsz := Maps.size_del (k := kl i) htidy
 rw [(h3 i).1, h2] at hsz
 have hsz2 : Maps.size (D.del (kl i)) = if S i = true then m - 1 else m := by
  by_cases e : S i = true
  · rw [if_pos e] at hsz ⊢; omega
  · rw [if_neg e] at hsz ⊢; omega
 refine ⟨w', hrun, ⟨D.del (kl i), ?_, hsz2, fun j => ?_⟩, hg.grown⟩
 · rw [← hsz2]; exact owns_tight hown
 · by_cases hj : j = i
   · subst hj
     rw [Maps.has_del_same]
     simp
   · rw [Maps.has_del_other (kl_ne hj), Maps.atKey_del_other (kl_ne hj), (h3 j).1]
     simp only [beq_eq_false_iff_ne.2 hj, Bool.not_false, Bool.true_and]
     exact ⟨trivial, (h3 j).2⟩
structure Rch (w : World) (rb mb : Nat) (V : List Nat) : Prop where
 blk : w.heap[rb]? = some (.cells #[.map (some mb), .bool false] 151 (0, 0))
 map : HadIs w mb (fun i => decide (i ∈ toI V)) V.length
 nd : V.Nodup
 ne : rb ≠ mb
theorem Rch.below {w w' : World} {rb mb : Nat} {V : List Nat} (h : Rch w rb mb V) (k : Below w.heap.size w w') : Rch w' rb mb V := ⟨blk_keep h.blk k, h.map.below k, h.nd, h.ne⟩
theorem Rch.keep {S : Nat → Prop} {w w' : World} {rb mb : Nat} {V : List Nat} (h : Rch w rb mb V) (k : Keep S w w') (h1 : ¬ S rb) (h2 : ¬ S mb) : Rch w' rb mb V :=
 ⟨k.blk h.blk h1, h.map.block (k.block _ h.map.lt h2), h.nd, h.ne⟩
theorem toI_mem {V : List Nat} {m : Nat} : ((m : Nat) : Int) ∈ toI V ↔ m ∈ V := by
 unfold toI
 rw [List.mem_map]
 constructor
 · rintro ⟨a, h1, h2⟩
   have : a = m := by omega
   exact this ▸ h1
 · exact fun h => ⟨m, h, rfl⟩
def NumIs (w : World) (b : Nat) (F : Int → Option Int) (m : Nat) : Prop :=
 ∃ D : DataW Unit, w.ownsMap Tryz.prog 3 (plainElem Tryz.prog 3) b m D ∧ (∀ i, Maps.has D (kl i) = (F i).isSome) ∧ ∀ i y, F i = some y → D.atKey (kl i) (.lit (.int .i64 0)) = .lit (.int .i64 y)
theorem NumIs.block {w w' : World} {b m : Nat} {F : Int → Option Int} (h : NumIs w b F m) (e : w'.heap[b]? = w.heap[b]?) : NumIs w' b F m := by
 obtain ⟨D, h1, h2⟩ := h
 exact ⟨D, owns_block h1 e, h2⟩
theorem NumIs.lt {w : World} {b m : Nat} {F : Int → Option Int} (h : NumIs w b F m) : b < w.heap.size := by
 obtain ⟨D, h1, h2⟩ := h
 exact h1.lt
theorem NumIs.below {w w' : World} {b m : Nat} {F : Int → Option Int} (h : NumIs w b F m) (k : Below w.heap.size w w') : NumIs w' b F m := h.block (k.block _ h.lt)
theorem NumIs.made (w : World) : NumIs (w.alloc (.map #[] 0)) w.heap.size (fun _ => none) 0 :=
 ⟨.map [], World.ownsMap_made w _ _ _, fun i => rfl, fun i y h => by cases h⟩
theorem NumIs.look {w : World} {b m : Nat} {F : Int → Option Int} (h : NumIs w b F m) (i : Int) (hi : (Lit.int .i64 i).wf = true) :
 (Instr.lookup 234 (.map (some b)) (.int .i64 i) true).run Tryz.prog w = .ok (.tuple #[.int .i64 ((F i).getD 0), .bool (F i).isSome]) w := by
 obtain ⟨D, h1, h2, h3⟩ := h
 obtain ⟨v, ps, hrun, hv⟩ := h1.look_ok ikeyed Tryz.underlying234 (zero_int w) (plainElem_int Tryz.underlying3 (by decide)) (Maps.keyOf_int_mk Tryz.underlying3 hi)
 obtain ⟨x, rfl, hx, _⟩ := plainElem_int_inv Tryz.underlying3 hv
 have hx1 : D.atKey (kl i) (.lit (.int .i64 0)) = .lit (.int .i64 x) := (Prod.mk.inj hx).1
 rw [h2 i] at hrun
 rcases e : F i with _ | y
 · rw [e] at hrun
   have h4 : Maps.has D (kl i) = false := by rw [h2 i, e]; rfl
   rw [Maps.atKey_of_not_has h4] at hx1
   simp only [DataW.lit.injEq, Lit.int.injEq, true_and] at hx1
   rw [← hx1] at hrun
   exact hrun
 · rw [e] at hrun
   rw [h3 i y e] at hx1
   simp only [DataW.lit.injEq, Lit.int.injEq, true_and] at hx1
   rw [← hx1] at hrun
   exact hrun
def updI (F : Int → Option Int) (i y : Int) : Int → Option Int := fun j => if j = i then some y else F j
theorem NumIs.put {w : World} {b m : Nat} {F : Int → Option Int} (h : NumIs w b F m) (i y : Int) (hi : (Lit.int .i64 i).wf = true) (hy : (Lit.int .i64 y).wf = true) (hm : m < 1000000) :
 ∃ w', (Instr.mapUpdate 234 (.map (some b)) (.int .i64 i) (.int .i64 y)).run Tryz.prog w = .ok () w' ∧ NumIs w' b (updI F i y) (m + 1) ∧ w.grownBy w' (some b) := by
 obtain ⟨D, h1, h2, h3⟩ := h
 have hkey := Maps.keyOf_int_mk Tryz.underlying3 hi
 have hisk : WideAt.IsKeyLit (kl i) := ikeyed.key hkey
 obtain ⟨w', hrun, hown, hg⟩ := h1.update ikeyed Tryz.underlying234 (by unfold maxLen; omega) hkey (plainElem_int Tryz.underlying3 hy)
 have htidy := h1.tidy ikeyed
 refine ⟨w', hrun, ⟨D.put (kl i) (.lit (.int .i64 y)), hown, fun j => ?_, fun j z => ?_⟩, hg⟩
 · unfold updI
   by_cases hj : j = i
   · subst hj
     rw [Maps.has_put_same htidy.isMap hisk, if_pos rfl]; rfl
   · rw [Maps.has_put_other (kl_ne hj), if_neg hj]; exact h2 j
 · unfold updI
   by_cases hj : j = i
   · subst hj
     rw [Maps.atKey_put_same htidy.isMap hisk, if_pos rfl]
     intro e
     rw [Option.some.inj e]
   · rw [Maps.atKey_put_other (kl_ne hj), if_neg hj]; exact h3 j z
end Go.Proofs.YtijhamllnnilbaaGreatDoor.Ha
namespace Go.Proofs.YtijhamllnnilbaaGreatDoor.Ha
open Go.RowKit Go.Proofs.YtijhamllnnilbaaGreatDoor.Mem Go.Proofs.YtijhamllnnilbaaGreatDoor.Pg Go.Proofs.YtijhamllnnilbaaGreatDoor.Kp Go.Proofs.YtijhamllnnilbaaGreatDoor.Sp Go.Proofs.YtijhamllnnilbaaGreatDoor.Gr
set_option linter.unusedSimpArgs false
set_option linter.unusedVariables false
structure HvS (w wr : World) (l : List Cel) (d j : Nat) (v0 v1 : Value) : Prop where
 blk : wr.heap[w.heap.size]? = some (.cells #[v0, v1] 292 (0, 0))
 r0 : wr.ownsRow (w.heap.size + 1) 33 4 v0 ((l.take j).filter (bitF d)).length (flatC ((l.take j).filter (bitF d)))
 r1 : wr.ownsRow (w.heap.size + 1) 33 4 v1 ((l.take j).filter (fun c => !bitF d c)).length (flatC ((l.take j).filter (fun c => !bitF d c)))
 ne : ∀ g, v0.ownBlock = some g → v1.ownBlock ≠ some g
 bel : Below w.heap.size w wr
theorem HvS.below {w wr wq : World} {l : List Cel} {d j : Nat} {v0 v1 : Value} (h : HvS w wr l d j v0 v1) (k : Below wr.heap.size wr wq) : HvS w wq l d j v0 v1 :=
 ⟨blk_keep h.blk k, own_below h.r0 k, own_below h.r1 k, h.ne, below_base h.bel h.bel.size k⟩
theorem filt_step {l : List Cel} {j : Nat} (hj : j < l.length) (p : Cel → Bool) : (l.take (j + 1)).filter p = (l.take j).filter p ++ (if p l[j] then [l[j]] else []) := by
 rw [List.take_succ_eq_append_getElem hj, List.filter_append]
 congr 1
 by_cases h : p l[j] = true
 · rw [if_pos h, List.filter_cons_of_pos h]; rfl
 · rw [if_neg h, List.filter_cons_of_neg h]; rfl
theorem HvS.next {w wr : World} {l : List Cel} {d j : Nat} {v0 v1 : Value} (h : HvS w wr l d j v0 v1) (hj : j < l.length) (bit : Nat) (hb : bit = if bitF d l[j] then 0 else 1) (hl : l.length ≤ 1000) :
 Calls Tryz.prog 198 #[.pointer (some ⟨w.heap.size, 0, none⟩), .int .i64 bit, l[j].v] wr fun e w' => e = .returned (.tuple #[]) ∧ ∃ v0' v1', HvS w w' l d (j + 1) v0' v1' := by
 have hbs : w.heap.size + 1 ≤ wr.heap.size := lt_of_block h.blk
 have hle : ∀ p : Cel → Bool, ((l.take j).filter p).length ≤ 10000 := fun p => by
  have h1 := List.length_filter_le p (l.take j)
  rw [List.length_take] at h1
  omega
 by_cases hp : bitF d l[j] = true
 · rw [if_pos hp] at hb
   subst hb
   refine (hadd0 wr (w.heap.size + 1) w.heap.size v0 v1 _ l[j] h.blk h.r0 (Nat.lt_succ_self _) hbs (hle _)).mono ?_
   rintro e w' ⟨rfl, v', h1, h2, h3, h4⟩
   refine ⟨rfl, v', v1, h1, ?_, ?_, fun g hg hg2 => ?_, ?_⟩
   · rw [filt_step hj, if_pos hp]; exact h2
   · rw [filt_step hj, if_neg (by simp [hp]), List.append_nil]
     exact h3.row h.r1 (fun g hg hs => by
      rcases hs with hs | hs
      · have := own_base h.r1 g hg; omega
      · exact h.ne g hs hg)
   · rcases h4 g hg with h5 | h5
     · exact h.ne g h5 hg2
     · have := own_lt h.r1 g hg2; omega
   · exact h.bel.trans (h3.to_below h.bel.size (fun i hi => by
      rcases hi with hi | hi
      · omega
      · have := own_base h.r0 i hi; omega))
 · rw [if_neg hp] at hb
   subst hb
   refine (hadd1 wr (w.heap.size + 1) w.heap.size v0 v1 _ l[j] h.blk h.r1 (Nat.lt_succ_self _) hbs (hle _)).mono ?_
   rintro e w' ⟨rfl, v', h1, h2, h3, h4⟩
   refine ⟨rfl, v0, v', h1, ?_, ?_, fun g hg hg2 => ?_, ?_⟩
   · rw [filt_step hj, if_neg hp, List.append_nil]
     exact h3.row h.r0 (fun g hg hs => by
      rcases hs with hs | hs
      · have := own_base h.r0 g hg; omega
      · exact h.ne g hg hs)
   · rw [filt_step hj, if_pos (by simp [hp])]; exact h2
   · rcases h4 g hg2 with h5 | h5
     · exact h.ne g hg h5
     · have := own_lt h.r0 g hg; omega
   · exact h.bel.trans (h3.to_below h.bel.size (fun i hi => by
      rcases hi with hi | hi
      · omega
      · have := own_base h.r1 i hi; omega))
theorem bit_u32 (a d : Nat) (ha : a < 4294967296) (hd : d ≤ 31) : wrap64 (bits .and .u32 ((a : Int) / 2 ^ d) 1) = ((a / 2 ^ d % 2 : Nat) : Int) := by
 have h1 := and_u32 (a / 2 ^ d) 1 (Nat.lt_of_le_of_lt (Nat.div_le_self _ _) ha) (by omega)
 have e : (a : Int) / 2 ^ d = ((a / 2 ^ d : Nat) : Int) := by simp
 rw [e]
 have h2 : bits .and .u32 (((a / 2 ^ d : Nat)) : Int) 1 = ((a / 2 ^ d % 2 : Nat) : Int) := by simpa using h1
 rw [h2]
 exact IntWalk.wrap64_in _ (by omega)
set_option maxRecDepth 100000 in
set_option maxHeartbeats 4000000 in
theorem bsplit_ok (w : World) (d n cap : Nat) (A : Option Addr) (l : List Cel) (hA : Cels w A l) (hn : n = l.length) (hl : l.length ≤ 1000) (hd : d ≤ 31) (hk : ∀ c, c ∈ l → c.key.length ≤ 1000) :
 Calls Tryz.prog 143 #[.int .i64 d, .slice A n cap] w fun e w' => ∃ A0 c0 A1 c1, e = .returned (.tuple #[.slice A0 (l.filter (bitF d)).length c0, .slice A1 (l.filter (fun c => !bitF d c)).length c1]) ∧
  w'.ownsRow w.heap.size 33 4 (.slice A0 (l.filter (bitF d)).length c0) (l.filter (bitF d)).length (flatC (l.filter (bitF d))) ∧
  w'.ownsRow w.heap.size 33 4 (.slice A1 (l.filter (fun c => !bitF d c)).length c1) (l.filter (fun c => !bitF d c)).length (flatC (l.filter (fun c => !bitF d c))) ∧ Below w.heap.size w w' := by
 have H0 : Hid (HvS w (w.alloc (hvO (.slice none 0 0) (.slice none 0 0))) l d 0 (.slice none 0 0) (.slice none 0 0)) :=
  Lib.hid ⟨heap_alloc_new w _, ⟨rfl, .inl ⟨rfl, rfl⟩⟩, ⟨rfl, .inl ⟨rfl, rfl⟩⟩, fun g hg => by simp [Value.ownBlock] at hg, below_al (Below.refl _ w) _⟩
 have HA := Lib.hid hA
 have HK := Lib.hid hk
 have HN := Lib.hid hn
 have hn1 : n ≤ l.length := by omega
 have dd : decide ((d : Int) ≤ 31) = true := by simp; omega
 have dI : (d : Int) ≤ 31 := by omega
 clear hA hk hn
 go_enter Tryz.func143, Tryz.ntmps143
 go_wp2_with fail
 go_loopw [14] (fun v wr => ∃ (j : Nat) (v0 v1 : Value), v = .int .i64 (j : Nat) ∧ j ≤ n ∧ Hid (HvS w wr l d j v0 v1)) (fun v _ => n - (intOf v).toNat)
 case atStart => exact ⟨0, _, _, rfl, Nat.zero_le _, H0⟩
 case round =>
  clear H0
  obtain ⟨j, v0, v1, rfl, hj, H1⟩ := hrel
  by_cases hlt : j < n
  · have hjl : j < l.length := by omega
    have hsum := fun W => sum_any l[j].key W (by have := HK.out _ (List.getElem_mem hjl); omega)
    obtain ⟨b, off, rfl, hbl, hcell⟩ := HA.out (by have := HN.out; omega)
    have hc := fun r u (hu : (l[j].cells)[r]? = some u) => (H1.out.bel.cell (p := ⟨b, off + j * 4 + r, none⟩) hbl).trans (hcell j l[j] (List.getElem?_eq_getElem hjl) r u hu)
    have c0 := hc 0 _ rfl
    have c1 := hc 1 _ rfl
    have c2 := hc 2 _ rfl
    have c3 := hc 3 _ rfl
    rw [Nat.add_zero] at c0
    have hbw : b < wr.heap.size := Nat.lt_of_lt_of_le hbl H1.out.bel.size
    have hlt32 := sumF_lt l[j].key
    have hbit := bit_u32 (sumF l[j].key) d hlt32 hd
    have hnext := fun W (HW : HvS w W l d j v0 v1) (bit : Nat) hb => HW.next hjl bit hb hl
    obtain ⟨bt1, hbt1⟩ : ∃ b : Nat, b = sumF l[j].key / 2 ^ d % 2 := ⟨_, rfl⟩
    have hbt2 : bt1 = if bitF d l[j] then 0 else 1 := by
     rw [hbt1]
     unfold bitF
     rcases Nat.mod_two_eq_zero_or_one (sumF l[j].key / 2 ^ d) with h | h <;> simp [h]
    have hnx := fun W (HW : HvS w W l d j v0 v1) => hnext W HW bt1 hbt2
    rw [← hbt1] at hbit
    simp only [Cel.v] at hnx
    generalize sumF l[j].key = sf at *
    obtain ⟨U1, hU1⟩ : ∃ U, U = str l[j].key := ⟨_, rfl⟩
    obtain ⟨U2, hU2⟩ : ∃ U, U = str l[j].val := ⟨_, rfl⟩
    obtain ⟨xb, hxb⟩ : ∃ b : Int, b = l[j].blob := ⟨_, rfl⟩
    obtain ⟨xz, hxz⟩ : ∃ b : Int, b = l[j].size := ⟨_, rfl⟩
    rw [← hU1] at hsum c0 hnx
    rw [← hU2] at c1 hnx
    rw [← hxb] at c2 hnx
    rw [← hxz] at c3 hnx
    have H5 := Lib.hid (H1.out.below (below_al (Below.refl _ wr) (celO U1 U2 xb xz)))
    have zc := heap_alloc_new wr (celO U1 U2 xb xz)
    have cz := blk_cell zc
    have lz := lt_of_block zc
    have Z5 := Lib.hid zc
    have hjI : (j : Int) < (n : Int) := by omega
    have i1 : IntKind.i64.wrap ((j : Int) + 1) = (j : Int) + 1 := IntWalk.i64_in _ (by omega)
    have HBT := Lib.hid hbit
    clear hU1 hU2 hxb hxz hc hcell hnext hbt1 hbt2 zc hbit
    go_wp2_with fail
    with_reducible refine (hsum _).mono ?_
    rintro e w6 ⟨rfl, rfl⟩
    go_wp2_with fail
    rw [HBT.out]
    with_reducible refine (hnx _ H5.out).mono ?_
    rintro e w7 ⟨rfl, v0', v1', h7⟩
    have H7 := Lib.hid h7
    clear h7 hnx H5 hsum c0 c1 c2 c3 cz lz Z5 HBT
    go_wp2_with fail
    go_roundw
    case rel => exact ⟨j + 1, v0', v1', by go_num, by omega, H7⟩
    case measure => clear i1; simp [intOf]; omega
  · obtain rfl : j = n := by omega
    have hb := H1.out
    have r0 := hb.r0
    have r1 := hb.r1
    rw [HN.out, List.take_length] at r0 r1
    obtain ⟨A0, c0, h0⟩ := own_slice r0
    obtain ⟨A1, c1, h1⟩ := own_slice r1
    subst h0 h1
    have ch := blk_cell hb.blk
    have lh := lt_of_block hb.blk
    have HF := Lib.hid (And.intro (row_mono r0 (Nat.le_succ _)) (And.intro (row_mono r1 (Nat.le_succ _)) hb.bel))
    clear r0 r1 hb H1
    go_wp2_with fail
    go_region
    go_wp2_with fail
    go_ret2
    exact ⟨A0, c0, A1, c1, rfl, HF.out.1, HF.out.2.1, below_dr HF.out.2.2⟩
end Go.Proofs.YtijhamllnnilbaaGreatDoor.Ha
