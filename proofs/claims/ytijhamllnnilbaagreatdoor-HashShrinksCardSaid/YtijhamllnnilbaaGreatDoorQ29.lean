/- Lemmas of the claim, in their order:
- Maps from numbers: a set of pages that were reached; numbers by pages.
- A page that is behind a bucket, and empty, goes. No program in sight.
-/
import Derived.Test.YtijhamllnnilbaaGreatDoorQ28
import Derived.Maps.OwnSet
import Derived.Test.YtijhamllnnilbaaGreatDoorQ26
set_option linter.unusedVariables false
set_option linter.unusedSimpArgs false
namespace Go.Proofs.YtijhamllnnilbaaGreatDoor.Ha
open Go.RowKit Go.Proofs.YtijhamllnnilbaaGreatDoor.Mem Go.Proofs.YtijhamllnnilbaaGreatDoor.Pg Go.Proofs.YtijhamllnnilbaaGreatDoor.Kp Go.Proofs.YtijhamllnnilbaaGreatDoor.Sp Go.Proofs.YtijhamllnnilbaaGreatDoor.Gr
set_option linter.unusedVariables false
set_option linter.unusedSimpArgs false
theorem zero_bool (w : World) : (zeroValue 4).run Tryz.prog w = .ok (.bool false) w := by kernel_rfl
theorem zero_int (w : World) : (zeroValue 3).run Tryz.prog w = .ok (.int .i64 0) w := by kernel_rfl
def HadIs (w : World) (b : Nat) (S : Int → Bool) (m : Nat) : Prop :=
 ∃ D : DataW Unit, w.ownsMap Tryz.prog 3 (plainElem Tryz.prog 4) b m D ∧ Maps.size D = m ∧ ∀ i, Maps.has D (kl i) = S i ∧ (S i = true → D.atKey (kl i) (.lit (.bool false)) = .lit (.bool true))
theorem HadIs.block {w w' : World} {b m : Nat} {S : Int → Bool} (h : HadIs w b S m) (e : w'.heap[b]? = w.heap[b]?) : HadIs w' b S m := by
 obtain ⟨D, h1, h2⟩ := h
 exact ⟨D, owns_block h1 e, h2⟩
theorem HadIs.lt {w : World} {b m : Nat} {S : Int → Bool} (h : HadIs w b S m) : b < w.heap.size := by
 obtain ⟨D, h1, h2⟩ := h
 exact h1.lt
theorem HadIs.below {w w' : World} {b m : Nat} {S : Int → Bool} (h : HadIs w b S m) (k : Below w.heap.size w w') : HadIs w' b S m := h.block (k.block _ h.lt)
theorem HadIs.made (w : World) : HadIs (w.alloc (.map #[] 0)) w.heap.size (fun _ => false) 0 :=
 ⟨.map [], World.ownsMap_made w _ _ _, rfl, fun i => ⟨rfl, fun h => by cases h⟩⟩
theorem bool_inv' {P : Program} {e : TypeId} (he : P.underlying e = some .bool) {v : Value} {z : DataW Unit × List MemPlace} (h : plainElem P e v = some z) : ∃ x, v = .bool x ∧ z = (.lit (.bool x), []) := by
 unfold plainElem at h
 rw [he] at h
 cases v <;> simp at h
 exact ⟨_, rfl, h.symm⟩
theorem bool_inv {v : Value} {z : DataW Unit × List MemPlace} (h : plainElem Tryz.prog 4 v = some z) : ∃ x, v = .bool x ∧ z = (.lit (.bool x), []) := bool_inv' Tryz.underlying4 h
theorem HadIs.look {w : World} {b m : Nat} {S : Int → Bool} (h : HadIs w b S m) (i : Int) (hi : (Lit.int .i64 i).wf = true) :
 (Instr.lookup 149 (.map (some b)) (.int .i64 i) false).run Tryz.prog w = .ok (.bool (S i)) w := by
 obtain ⟨D, h1, h2, h3⟩ := h
 obtain ⟨v, ps, hrun, hv⟩ := h1.lookup ikeyed Tryz.underlying149 (zero_bool w) (plainElem_bool Tryz.underlying4 false) (Maps.keyOf_int_mk Tryz.underlying3 hi)
 obtain ⟨x, rfl, hx⟩ := bool_inv hv
 have hx1 : D.atKey (kl i) (.lit (.bool false)) = .lit (.bool x) := (Prod.mk.inj hx).1
 obtain ⟨h4, h5⟩ := h3 i
 rcases e : S i with _ | _
 · rw [e] at h4
   rw [Maps.atKey_of_not_has h4] at hx1
   simp only [DataW.lit.injEq, Lit.bool.injEq] at hx1
   rw [← hx1] at hrun
   exact hrun
 · rw [h5 e] at hx1
   simp only [DataW.lit.injEq, Lit.bool.injEq] at hx1
   rw [← hx1] at hrun
   exact hrun
theorem HadIs.put {w : World} {b m : Nat} {S : Int → Bool} (h : HadIs w b S m) (i : Int) (hi : (Lit.int .i64 i).wf = true) (hm : m < 1000000) :
 ∃ w', (Instr.mapUpdate 149 (.map (some b)) (.int .i64 i) (.bool true)).run Tryz.prog w = .ok () w' ∧ HadIs w' b (fun j => j == i || S j) (if S i = true then m else m + 1) ∧ w.grownBy w' (some b) := by
 obtain ⟨D, h1, h2, h3⟩ := h
 have hkey := Maps.keyOf_int_mk Tryz.underlying3 hi
 have hisk : WideAt.IsKeyLit (kl i) := ikeyed.key hkey
 obtain ⟨w', hrun, hown, hg⟩ := h1.update ikeyed Tryz.underlying149 (by unfold maxLen; omega) hkey (plainElem_bool Tryz.underlying4 true)
 have htidy := h1.tidy ikeyed
 have hsz := Maps.size_put (k := kl i) htidy (.lit (.bool true))
 rw [(h3 i).1, h2] at hsz
 refine ⟨w', hrun, ⟨D.put (kl i) (.lit (.bool true)), ?_, hsz, fun j => ?_⟩, hg⟩
 · rw [← hsz]; exact owns_tight hown
 · by_cases hj : j = i
   · subst hj
     rw [Maps.has_put_same htidy.isMap hisk, Maps.atKey_put_same htidy.isMap hisk]
     simp
   · rw [Maps.has_put_other (kl_ne hj), Maps.atKey_put_other (kl_ne hj), (h3 j).1]
     simp only [beq_eq_false_iff_ne.2 hj, Bool.false_or]
     exact ⟨trivial, (h3 j).2⟩
theorem HadIs.len {w : World} {b m : Nat} {S : Int → Bool} (h : HadIs w b S m) (ty : TypeId) : (Builtin.len_ #[149] ty #[.map (some b)]).run Tryz.prog w = .ok (.int .i64 m) w := by
 obtain ⟨D, h1, h2, _⟩ := h
 rw [← h2]
 exact h1.len Tryz.underlying149 ty
theorem HadIs.drop {w : World} {b m : Nat} {S : Int → Bool} (h : HadIs w b S m) (i : Int) (hi : (Lit.int .i64 i).wf = true) (ty : TypeId) :
 ∃ w', (Builtin.delete_ #[149, 3] ty #[.map (some b), .int .i64 i]).run Tryz.prog w = .ok (.tuple #[]) w' ∧ HadIs w' b (fun j => !(j == i) && S j) (if S i = true then m - 1 else m) ∧ w.grownBy w' (some b) := by
 obtain ⟨D, h1, h2, h3⟩ := h
 have hkey := Maps.keyOf_int_mk Tryz.underlying3 hi
 have htidy := h1.tidy ikeyed
 obtain ⟨w', hrun, hown, hg⟩ := h1.drop ikeyed Tryz.underlying149 hkey ty
 have hsz := Maps.size_del (k := kl i) htidy
 rw [(h3 i).1, h2] at hsz
 have hsz2 : Maps.size (D.del (kl i)) = if S i = true then m - 1 else m := by
  by_cases e : S i = true
  · rw [if_pos e] at hsz ⊢; omega
  · rw [if_neg e] at hsz ⊢; omega
 refine ⟨w', hrun, ⟨D.del (kl i), ?_, hsz2, fun j => ?_⟩, hg.grown⟩
 · rw [← hsz2]; exact owns_tight hown
 · by_cases hj : j = i
   · subst hj
     rw [Maps.has_del_same]
     simp
   · rw [Maps.has_del_other (kl_ne hj), Maps.atKey_del_other (kl_ne hj), (h3 j).1]
     simp only [beq_eq_false_iff_ne.2 hj, Bool.not_false, Bool.true_and]
     exact ⟨trivial, (h3 j).2⟩
structure Rch (w : World) (rb mb : Nat) (V : List Nat) : Prop where
 blk : w.heap[rb]? = some (.cells #[.map (some mb), .bool false] 151 (0, 0))
 map : HadIs w mb (fun i => decide (i ∈ toI V)) V.length
 nd : V.Nodup
 ne : rb ≠ mb
theorem Rch.below {w w' : World} {rb mb : Nat} {V : List Nat} (h : Rch w rb mb V) (k : Below w.heap.size w w') : Rch w' rb mb V := ⟨blk_keep h.blk k, h.map.below k, h.nd, h.ne⟩
theorem Rch.keep {S : Nat → Prop} {w w' : World} {rb mb : Nat} {V : List Nat} (h : Rch w rb mb V) (k : Keep S w w') (h1 : ¬ S rb) (h2 : ¬ S mb) : Rch w' rb mb V :=
 ⟨k.blk h.blk h1, h.map.block (k.block _ h.map.lt h2), h.nd, h.ne⟩
theorem toI_mem {V : List Nat} {m : Nat} : ((m : Nat) : Int) ∈ toI V ↔ m ∈ V := by
 unfold toI
 rw [List.mem_map]
 constructor
 · rintro ⟨a, h1, h2⟩
   have : a = m := by omega
   exact this ▸ h1
 · exact fun h => ⟨m, h, rfl⟩
def NumIs (w : World) (b : Nat) (F : Int → Option Int) (m : Nat) : Prop :=
 ∃ D : DataW Unit, w.ownsMap Tryz.prog 3 (plainElem Tryz.prog 3) b m D ∧ (∀ i, Maps.has D (kl i) = (F i).isSome) ∧ ∀ i y, F i = some y → D.atKey (kl i) (.lit (.int .i64 0)) = .lit (.int .i64 y)
theorem NumIs.block {w w' : World} {b m : Nat} {F : Int → Option Int} (h : NumIs w b F m) (e : w'.heap[b]? = w.heap[b]?) : NumIs w' b F m := by
 obtain ⟨D, h1, h2⟩ := h
 exact ⟨D, owns_block h1 e, h2⟩
theorem NumIs.lt {w : World} {b m : Nat} {F : Int → Option Int} (h : NumIs w b F m) : b < w.heap.size := by
 obtain ⟨D, h1, h2⟩ := h
 exact h1.lt
theorem NumIs.below {w w' : World} {b m : Nat} {F : Int → Option Int} (h : NumIs w b F m) (k : Below w.heap.size w w') : NumIs w' b F m := h.block (k.block _ h.lt)
theorem NumIs.made (w : World) : NumIs (w.alloc (.map #[] 0)) w.heap.size (fun _ => none) 0 :=
 ⟨.map [], World.ownsMap_made w _ _ _, fun i => rfl, fun i y h => by cases h⟩
theorem NumIs.look {w : World} {b m : Nat} {F : Int → Option Int} (h : NumIs w b F m) (i : Int) (hi : (Lit.int .i64 i).wf = true) :
 (Instr.lookup 234 (.map (some b)) (.int .i64 i) true).run Tryz.prog w = .ok (.tuple #[.int .i64 ((F i).getD 0), .bool (F i).isSome]) w := by
 obtain ⟨D, h1, h2, h3⟩ := h
 obtain ⟨v, ps, hrun, hv⟩ := h1.look_ok ikeyed Tryz.underlying234 (zero_int w) (plainElem_int Tryz.underlying3 (by decide)) (Maps.keyOf_int_mk Tryz.underlying3 hi)
 obtain ⟨x, rfl, hx, _⟩ := plainElem_int_inv Tryz.underlying3 hv
 have hx1 : D.atKey (kl i) (.lit (.int .i64 0)) = .lit (.int .i64 x) := (Prod.mk.inj hx).1
 rw [h2 i] at hrun
 rcases e : F i with _ | y
 · rw [e] at hrun
   have h4 : Maps.has D (kl i) = false := by rw [h2 i, e]; rfl
   rw [Maps.atKey_of_not_has h4] at hx1
   simp only [DataW.lit.injEq, Lit.int.injEq, true_and] at hx1
   rw [← hx1] at hrun
   exact hrun
 · rw [e] at hrun
   rw [h3 i y e] at hx1
   simp only [DataW.lit.injEq, Lit.int.injEq, true_and] at hx1
   rw [← hx1] at hrun
   exact hrun
def updI (F : Int → Option Int) (i y : Int) : Int → Option Int := fun j => if j = i then some y else F j
theorem NumIs.put {w : World} {b m : Nat} {F : Int → Option Int} (h : NumIs w b F m) (i y : Int) (hi : (Lit.int .i64 i).wf = true) (hy : (Lit.int .i64 y).wf = true) (hm : m < 1000000) :
 ∃ w', (Instr.mapUpdate 234 (.map (some b)) (.int .i64 i) (.int .i64 y)).run Tryz.prog w = .ok () w' ∧ NumIs w' b (updI F i y) (m + 1) ∧ w.grownBy w' (some b) := by
 obtain ⟨D, h1, h2, h3⟩ := h
 have hkey := Maps.keyOf_int_mk Tryz.underlying3 hi
 have hisk : WideAt.IsKeyLit (kl i) := ikeyed.key hkey
 obtain ⟨w', hrun, hown, hg⟩ := h1.update ikeyed Tryz.underlying234 (by unfold maxLen; omega) hkey (plainElem_int Tryz.underlying3 hy)
 have htidy := h1.tidy ikeyed
 refine ⟨w', hrun, ⟨D.put (kl i) (.lit (.int .i64 y)), hown, fun j => ?_, fun j z => ?_⟩, hg⟩
 · unfold updI
   by_cases hj : j = i
   · subst hj
     rw [Maps.has_put_same htidy.isMap hisk, if_pos rfl]; rfl
   · rw [Maps.has_put_other (kl_ne hj), if_neg hj]; exact h2 j
 · unfold updI
   by_cases hj : j = i
   · subst hj
     rw [Maps.atKey_put_same htidy.isMap hisk, if_pos rfl]
     intro e
     rw [Option.some.inj e]
   · rw [Maps.atKey_put_other (kl_ne hj), if_neg hj]; exact h3 j z
end Go.Proofs.YtijhamllnnilbaaGreatDoor.Ha
namespace Go.Proofs.YtijhamllnnilbaaGreatDoor.Ha
open Go.RowKit Go.Proofs.YtijhamllnnilbaaGreatDoor.Mem Go.Proofs.YtijhamllnnilbaaGreatDoor.Pg Go.Proofs.YtijhamllnnilbaaGreatDoor.Gr Go.Proofs.YtijhamllnnilbaaGreatDoor.Sp
set_option linter.unusedVariables false
set_option linter.unusedSimpArgs false
def pagsN (k d : Int) : List (Nat × List Cel) → Nat → List (Nat × Pag)
 | [], _ => []
 | p :: r, x => (p.1, ⟨k, d, ((match r with | [] => x | a :: _ => a.1 : Nat) : Int), bodyF p.2⟩) :: pagsN 4 0 r x
theorem pagsN_len (k d : Int) (ps : List (Nat × List Cel)) (x : Nat) : (pagsN k d ps x).length = ps.length := by
 induction ps generalizing k d with
 | nil => rfl
 | cons p r ih => simp [pagsN, ih]
theorem pagsF_app : ∀ (K : List (Nat × List Cel)) (k d : Int) (S : List (Nat × List Cel)), K ≠ [] → pagsF k d (K ++ S) = pagsN k d K (nextF S) ++ pagsF 4 0 S
 | [], _, _, _, h => absurd rfl h
 | [p], k, d, S, _ => rfl
 | p :: a :: r, k, d, S, _ => by
  have h := pagsF_app (a :: r) 4 0 S (by simp)
  show (p.1, (⟨k, d, _, bodyF p.2⟩ : Pag)) :: pagsF 4 0 ((a :: r) ++ S) = _
  rw [h]
  rfl
theorem pagsN_last : ∀ (K : List (Nat × List Cel)) (k d : Int) (x y l m : Nat) (q : Pag), l + 1 = K.length → (pagsN k d K x)[l]? = some (m, q) →
 pagsN k d K y = (pagsN k d K x).set l (m, ⟨q.k, q.d, (y : Int), q.l⟩) ∧ q.x = (x : Int)
 | [], _, _, _, _, _, _, _, h, _ => by simp at h
 | [p], k, d, x, y, 0, m, q, _, hq => by
  simp [pagsN] at hq
  obtain ⟨rfl, rfl⟩ := hq
  exact ⟨rfl, rfl⟩
 | [p], k, d, x, y, l + 1, m, q, h, _ => by simp at h
 | p :: a :: r, k, d, x, y, 0, m, q, h, _ => by simp at h
 | p :: a :: r, k, d, x, y, l + 1, m, q, h, hq => by
  have h1 : (pagsN 4 0 (a :: r) x)[l]? = some (m, q) := by simpa [pagsN] using hq
  obtain ⟨h2, h3⟩ := pagsN_last (a :: r) 4 0 x y l m q (by simpa using h) h1
  refine ⟨?_, h3⟩
  show (p.1, (⟨k, d, _, bodyF p.2⟩ : Pag)) :: pagsN 4 0 (a :: r) y = _
  rw [h2]
  rfl
variable {n D : Nat} {pg pg' : Nat → Pag} {t s : Tri} {ml ml' : List UInt8} {X : List Nat}
theorem Hs.drop (H : Hs n pg D t ml X) (h : Nat) (K R : List (Nat × List Cel)) (ni m l : Nat) (q : Pag) (hQ : (t.at' h).pgs = K ++ (ni, []) :: R) (hl : l + 1 = K.length) (hq : ((t.at' h).pags (t.dep h))[l]? = some (m, q)) {md mx : Int} (hp1 : pg 1 = ⟨2, md, mx, ml⟩) :
 bt ml ni = 1 ∧ 2 ≤ ni ∧ ni < n ∧ Hs n (updN (updN pg m ⟨q.k, q.d, (nextF R : Nat), q.l⟩) 1 ⟨2, md, mx, ml.set ni 2⟩) D (updB t h (K ++ R)) (ml.set ni 2) X ∧
  (∀ k, lookT (updB t h (K ++ R)) k = lookT t k) ∧ SameX X pg (updN (updN pg m ⟨q.k, q.d, (nextF R : Nat), q.l⟩) 1 ⟨2, md, mx, ml.set ni 2⟩) ∧
  (lfOf (K ++ R)).pags (t.dep h) = (pagsN 3 (t.dep h : Nat) K ni).set l (m, ⟨q.k, q.d, (nextF R : Nat), q.l⟩) ++ pagsF 4 0 R ∧ (pagsN 3 (t.dep h : Nat) K ni)[l]? = some (m, q) := by
 have hK : K ≠ [] := fun e => by rw [e] at hl; simp at hl
 have hKR : K ++ R ≠ [] := by simp [hK]
 have hpg := lfOf_pgs hKR
 have hnd := nums_nodup H h
 have hnums : (t.at' h).nums = K.map (·.1) ++ ni :: R.map (·.1) := by unfold Lf.nums; rw [hQ, List.map_append, List.map_cons]
 have hbn : (lfOf (K ++ R)).nums = K.map (·.1) ++ R.map (·.1) := by unfold Lf.nums; rw [hpg, List.map_append]
 have hin : ni ∈ (t.at' h).nums := by rw [hnums]; simp
 have hbm : ∀ y, y ∈ (t.at' h).nums → y ∈ numsF t.leaves := fun y hy => numsF_mem (t.at_mem h) hy
 have hr := H.tb.rng ni (hbm ni hin)
 have hb := (H.used ni hr.1 hr.2).2 (.inl (hbm ni hin))
 have hnd2 := hnd
 rw [hnums, List.nodup_append, List.nodup_cons] at hnd2
 have hniK : ni ∉ K.map (·.1) := fun h1 => hnd2.2.2 ni h1 ni (List.mem_cons_self ..) rfl
 have hsub : ∀ y, y ∈ (lfOf (K ++ R)).nums ↔ y ∈ (t.at' h).nums ∧ y ≠ ni := fun y => by
  rw [hbn, hnums]
  simp only [List.mem_append, List.mem_cons]
  constructor
  · rintro (h1 | h1)
    · exact ⟨.inl h1, fun e => hniK (e ▸ h1)⟩
    · exact ⟨.inr (.inr h1), fun e => hnd2.2.1.1 (e ▸ h1)⟩
  · rintro ⟨h1 | h1 | h1, h2⟩
    · exact .inl h1
    · exact absurd h1 h2
    · exact .inr h1
 have hcells : cellsP (K ++ R) = cellsP (t.at' h).pgs := by
  rw [hQ, cellsP_append, cellsP_append, cellsP_cons]; rfl
 have hpagsO : (t.at' h).pags (t.dep h) = pagsN 3 (t.dep h : Nat) K ni ++ pagsF 4 0 ((ni, []) :: R) := by
  unfold Lf.pags
  rw [hQ, pagsF_app K _ _ _ hK]
  rfl
 have hlq : (pagsN 3 (t.dep h : Nat) K ni)[l]? = some (m, q) := by
  rw [hpagsO, List.getElem?_append_left (by rw [pagsN_len]; omega)] at hq
  exact hq
 have hpagsN : (lfOf (K ++ R)).pags (t.dep h) = (pagsN 3 (t.dep h : Nat) K ni).set l (m, ⟨q.k, q.d, (nextF R : Nat), q.l⟩) ++ pagsF 4 0 R := by
  unfold Lf.pags
  rw [hpg, pagsF_app K _ _ _ hK, (pagsN_last K _ _ ni (nextF R) l m q hl hlq).1]
 have hnl : (t.at' h).nums[l]? = some m := by
  have := congrArg (Option.map (·.1)) hq
  rw [← List.getElem?_map] at this
  unfold Lf.pags at this
  rw [pagsF_nums] at this
  exact this
 have hmn : m ∈ (t.at' h).nums := List.mem_of_getElem? hnl
 have hmr := H.tb.rng m (hbm m hmn)
 refine ⟨hb, hr.1, hr.2, ?_, fun k => ?_, ?_, hpagsN, hlq⟩
 · refine H.leaf h (lfOf (K ++ R)) ?_ (fun q' hq' => ?_) (fun p hp => ?_) (fun y hy => .inl ((hsub y).1 hy).1) ?_ (fun c hc => ?_) ?_ ?_ ⟨md, mx, updN_same ..⟩ (H.is.set ni 2 hr.1 hr.2 (.inr rfl)) (fun y h1 h2 => ?_) (fun y h2 hy => ?_)
   · cases K with
     | nil => exact absurd rfl hK
     | cons a K =>
      have : (t.at' h).pgs = a :: (K ++ (ni, []) :: R) := hQ
      unfold Lf.pgs at this
      injection this with h1 _
      show a.1 = _
      rw [← h1]
   · rw [hpagsN] at hq'
     rcases List.mem_append.1 hq' with h1 | h1
     · obtain ⟨a, ha⟩ := List.mem_iff_getElem?.1 h1
       by_cases e : l = a
       · subst e
         rw [List.getElem?_set_self (List.getElem?_eq_some_iff.1 hlq).1] at ha
         injection ha with ha
         subst ha
         rw [updN_other _ _ (by show m ≠ 1; omega), updN_same]
       · rw [List.getElem?_set_ne e] at ha
         have hal := (List.getElem?_eq_some_iff.1 ha).1
         have h2 : ((t.at' h).pags (t.dep h))[a]? = some q' := by
          rw [hpagsO, List.getElem?_append_left hal]; exact ha
         have h3 : (t.at' h).nums[a]? = some q'.1 := by
          have := congrArg (Option.map (·.1)) h2
          rw [← List.getElem?_map] at this
          unfold Lf.pags at this
          rw [pagsF_nums] at this
          exact this
         have h4 : q'.1 ≠ m := fun e1 => by
          rw [e1] at h3
          exact e ((List.getElem?_inj (List.getElem?_eq_some_iff.1 hnl).1 hnd).1 (hnl.trans h3.symm))
         have h5 := H.tb.rng _ (hbm _ (List.mem_of_getElem? h3))
         rw [updN_other _ _ (by omega), updN_other _ _ h4]
         exact H.tb.shown h q' (List.mem_of_getElem? h2)
     · have h2 : q' ∈ (t.at' h).pags (t.dep h) := by
        rw [hpagsO]
        exact List.mem_append_right _ (List.mem_cons_of_mem _ h1)
       have h6 : q'.1 ∈ R.map (·.1) := by rw [← pagsF_nums 4 0 R]; exact List.mem_map_of_mem h1
       have h3 : q'.1 ∈ (t.at' h).nums := by rw [hnums]; exact List.mem_append_right _ (List.mem_cons_of_mem _ h6)
       have hmK : m ∈ K.map (·.1) := by
        rw [hnums, List.getElem?_append_left (by rw [List.length_map]; omega)] at hnl
        exact List.mem_of_getElem? hnl
       have h4 : q'.1 ≠ m := fun e1 => hnd2.2.2 m hmK m (List.mem_cons_of_mem _ (e1 ▸ h6)) rfl
       have h5 := H.tb.rng _ (hbm _ h3)
       rw [updN_other _ _ (by omega), updN_other _ _ h4]
       exact H.tb.shown h q' h2
   · rw [hpg] at hp
     refine H.tb.fits _ (t.at_mem h) p ?_
     rw [hQ]
     rcases List.mem_append.1 hp with h1 | h1
     · exact List.mem_append_left _ h1
     · exact List.mem_append_right _ (List.mem_cons_of_mem _ h1)
   · rw [hbn]
     refine List.Nodup.sublist ?_ hnd
     rw [hnums]
     exact (List.Sublist.refl _).append (List.sublist_cons_self _ _)
   · rw [Lf.cells_eq, hpg, hcells] at hc
     exact lead_mod H h hc
   · rw [Lf.cells_eq, hpg, hcells]
     exact H.tb.keys _ (t.at_mem h)
   · rw [updN_other _ _ (by omega), updN_other _ _ (by omega)]
   · have h3 := H.tb.rng y h1
     have hne : y ≠ m := fun e => h2 (by rw [e]; exact hmn)
     rw [updN_other _ _ (by omega), updN_other _ _ hne]
   · rw [bt_set _ _ _ (by have := H.is.len; have := H.is.le; omega), hsub y]
     by_cases e : ni = y
     · subst e
       rw [if_pos rfl]
       refine ⟨fun h1 => absurd h1 (by decide), fun h1 => ?_⟩
       rcases h1 with h1 | h1
       · exact absurd hin h1.2
       · exact absurd rfl h1.2
     · rw [if_neg e]
       constructor
       · intro h1
         by_cases h3 : y ∈ (t.at' h).nums
         · exact .inr ⟨h3, fun e' => e e'.symm⟩
         · exact .inl ⟨h1, h3⟩
       · rintro (h1 | h1)
         · exact h1.1
         · exact (H.used y h2 hy).2 (.inl (hbm y h1.1))
 · unfold updB
   rw [lookT_upd]
   by_cases e : sumF k % 2 ^ t.dep h = h % 2 ^ t.dep h
   · rw [if_pos e, Lf.cells_eq, hpg, hcells]
     unfold lookT
     rw [(at_same t _ _ e).1]; rfl
   · rw [if_neg e]
 · exact ((SameX.refl X pg).upd (fun hm => H.xd m hm (hbm m hmn)) _).upd (H.notX (by omega)) _
theorem drop_len (t : Tri) (h : Nat) (K R : List (Nat × List Cel)) (ni : Nat) (hQ : (t.at' h).pgs = K ++ (ni, []) :: R) (hK : K ≠ []) : (numsF (updB t h (K ++ R)).leaves).length + 1 = (numsF t.leaves).length := by
 have h1 := updB_len t h (K ++ R) (by simp [hK])
 rw [hQ] at h1
 simp only [List.length_append, List.length_cons] at h1
 omega
def tidP : List (Nat × List Cel) → List (Nat × List Cel)
 | [] => []
 | p :: r => p :: r.filter (fun q => !q.2.isEmpty)
theorem tidP_ne {ps : List (Nat × List Cel)} (h : ps ≠ []) : tidP ps ≠ [] := by
 cases ps with
 | nil => exact absurd rfl h
 | cons p r => simp [tidP]
theorem tidP_snoc {ps : List (Nat × List Cel)} (h : ps ≠ []) (p : Nat × List Cel) : tidP (ps ++ [p]) = tidP ps ++ (if p.2 = [] then [] else [p]) := by
 cases ps with
 | nil => exact absurd rfl h
 | cons a r =>
  show a :: (r ++ [p]).filter _ = a :: (r.filter _ ++ _)
  rw [List.filter_append]
  congr 2
  by_cases e : p.2 = []
  · rw [if_pos e, List.filter_cons_of_neg (by simp [e])]; rfl
  · rw [if_neg e, List.filter_cons_of_pos (by simpa using e)]; rfl
theorem pagsN_snoc : ∀ (K : List (Nat × List Cel)) (k d : Int) (p : Nat × List Cel) (x : Nat), K ≠ [] → (pagsN k d (K ++ [p]) x)[K.length]? = some (p.1, ⟨4, 0, (x : Int), bodyF p.2⟩)
 | [], _, _, _, _, h => absurd rfl h
 | [a], k, d, p, x, _ => rfl
 | a :: b :: r, k, d, p, x, _ => by
  have h := pagsN_snoc (b :: r) 4 0 p x (by simp)
  show (pagsN 4 0 ((b :: r) ++ [p]) x)[(b :: r).length]? = _
  exact h
theorem updB_twice (t : Tri) (h : Nat) (ps qs : List (Nat × List Cel)) : updB (updB t h ps) h qs = updB t h qs := by
 have e : (updB t h ps).dep h = t.dep h := (at_upd_self t h _).2
 unfold updB at e ⊢
 rw [e]
 exact upd_upd _ _ _ _ _ (Nat.le_refl _)
end Go.Proofs.YtijhamllnnilbaaGreatDoor.Ha
