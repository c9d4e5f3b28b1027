/- A group over a store of n pages, and what taking and giving makes of it; a map of pages that one had. -/
import Derived.Test.YtibbmmkjienekaaDoorGrAlive
namespace Go.Proofs.YtibbmmkjienekaaDoor.Gr
open Go.RowKit Go.Proofs.YtibbmmkjienekaaDoor.Mem Go.Proofs.YtibbmmkjienekaaDoor.Pg Go.Proofs.YtibbmmkjienekaaDoor.Kp Go.Proofs.YtibbmmkjienekaaDoor.Sp
set_option linter.unusedVariables false

/-- A group over a new store of n pages: its map's bytes are l. -/
structure One (w0 w : World) (gb mb sb qb c n : Nat) (l : List UInt8) (tk : Int) : Prop where
  tab : Tab w
  sto : Sto w sb qb n c (-1) (B0 n)
  g : ∃ M, Grp w gb mb sb M tk ∧ MapPage n (-1) (B0 n) M 0 0 l
  map : IsMap n l
  bel : Below w0.heap.size w0 w
  ord : w0.heap.size ≤ gb ∧ w0.heap.size ≤ mb ∧ sb < gb ∧ sb < mb ∧ qb < gb ∧ qb < mb ∧ gtab < gb ∧ gtab < mb
section
variable {w0 w w' : World} {gb mb sb qb c n : Nat} {l : List UInt8} {tk : Int}
theorem One.below (h : One w0 w gb mb sb qb c n l tk) (k : Below w.heap.size w w') : One w0 w' gb mb sb qb c n l tk := by
  obtain ⟨M, h1, h2⟩ := h.g
  exact ⟨h.tab.below k, h.sto.below k, ⟨M, h1.below k, h2⟩, h.map, below_base h.bel h.bel.size k, h.ord⟩
/-- Blocks that are neither the group's nor its map's stay. -/
theorem One.keep {S : Nat → Prop} (h : One w0 w gb mb sb qb c n l tk) (k : Keep S w w') (hS : ∀ i, S i → i ≠ gb ∧ i ≠ mb ∧ w0.heap.size ≤ i ∧ i ≠ sb ∧ i ≠ qb ∧ i ≠ gtab) : One w0 w' gb mb sb qb c n l tk := by
  obtain ⟨M, h1, h2⟩ := h.g
  exact ⟨h.tab.keep k (fun e => (hS _ e).2.2.2.2.2 rfl), h.sto.keep k (fun e => (hS _ e).2.2.2.1 rfl) (fun e => (hS _ e).2.2.2.2.1 rfl), ⟨M, h1.keep k (fun e => (hS _ e).1 rfl) (fun e => (hS _ e).2.1 rfl), h2⟩, h.map, below_keep h.bel h.bel.size k (fun i hi => (hS i hi).2.2.1), h.ord⟩
theorem One.lt (h : One w0 w gb mb sb qb c n l tk) : gb < w.heap.size ∧ mb < w.heap.size := by
  obtain ⟨M, h1, _⟩ := h.g
  exact ⟨h1.lt1, h1.lt2⟩
theorem One.taken (h : One w0 w gb mb sb qb c n l tk) : Calls Tryd.prog 18 #[.pointer (some ⟨gb, 0, none⟩)] w fun e w' => e = .returned (.int .i64 tk) ∧ w' = w := by
  obtain ⟨M, h1, _⟩ := h.g
  exact gtaken_any w gb mb sb M tk h1
theorem One.free (h : One w0 w gb mb sb qb c n l tk) : Calls Tryd.prog 17 #[.pointer (some ⟨gb, 0, none⟩)] w fun e w' => e = .returned (.int .i64 ((l.take n).count 2 : Nat)) ∧ Below w.heap.size w w' := by
  obtain ⟨M, h1, h2⟩ := h.g
  have := gfree_any w gb mb sb qb n c (-1) (B0 n) M tk 0 0 l h.tab h.sto h1 h2
  rw [pagesF_map h.map] at this
  exact this
theorem One.take (h : One w0 w gb mb sb qb c n l tk) (i : Nat) (hi : takeI 2 l = i) (h2 : 2 ≤ i) (hn : i < n) (hk : -1000000 ≤ tk ∧ tk ≤ 1000000) :
    Calls Tryd.prog 16 #[.pointer (some ⟨gb, 0, none⟩)] w fun e w' => e = .returned (.tuple #[.int .i64 i, .int .i64 0]) ∧ One w0 w' gb mb sb qb c n (l.set i 1) (tk + 1) ∧ Keep (fun j => j = gb ∨ j = mb) w w' := by
  obtain ⟨M, h1, hm⟩ := h.g
  have o := h.ord
  refine (gtake_ok w gb mb sb qb n c (-1) (B0 n) M tk 0 0 l h.tab h.sto h1 hm i hi (by rw [pagesF_map h.map]; exact hn) hk ⟨o.2.2.2.2.2.2.1, o.2.2.2.2.2.2.2⟩).mono ?_
  rintro e w' ⟨rfl, g', k'⟩
  have hok : Pag.ok ⟨2, 0, 0, l.set i 1⟩ := Pag.ok_mk (by omega) (by omega) (by omega) (by rw [List.length_set]; exact h.map.len)
  exact ⟨rfl, ⟨h.tab.keep k' (by omega), h.sto.keep k' (by omega) (by omega), ⟨_, g', MapPage.put n (-1) (B0 n) M hok rfl⟩, h.map.set i 1 h2 hn (.inl rfl), below_keep h.bel h.bel.size k' (by omega), o⟩, k'⟩
theorem One.take_no (h : One w0 w gb mb sb qb c n l tk) (hi : ∀ i, i < n → bt l i = 1) :
    Calls Tryd.prog 16 #[.pointer (some ⟨gb, 0, none⟩)] w fun e w' => e = .returned (.tuple #[.int .i64 0, .int .i64 6]) ∧ Below w.heap.size w w' := by
  obtain ⟨M, h1, hm⟩ := h.g
  have h8 := h.map.ge
  refine gtake_no w gb mb sb qb n c (-1) (B0 n) M tk 0 0 l h.tab h.sto h1 hm ?_ (by rw [pagesF_map h.map]; omega)
  rcases takeI_map h.map with ⟨h3, _⟩ | ⟨i, _, _, h5, h6, _⟩
  · omega
  · rw [hi i h5] at h6; simp at h6
theorem One.give (h : One w0 w gb mb sb qb c n l tk) (i : Nat) (h2 : 2 ≤ i) (hn : i < n) (hi : bt l i = 1) (hk : -1000000 ≤ tk ∧ tk ≤ 1000000) :
    Calls Tryd.prog 19 #[.pointer (some ⟨gb, 0, none⟩), .int .i64 i] w fun e w' => e = .returned (.int .i64 0) ∧ One w0 w' gb mb sb qb c n (l.set i 2) (tk - 1) ∧ Keep (fun j => j = gb ∨ j = mb) w w' := by
  obtain ⟨M, h1, hm⟩ := h.g
  have o := h.ord
  refine (ggive_ok w gb mb sb qb n c (-1) (B0 n) M tk 0 0 l h.tab h.sto h1 hm i h2 ((usedF_map h.map i).2 ⟨by omega, by omega, by rw [Int.toNat_natCast]; exact hi⟩) hk ⟨o.2.2.2.2.2.2.1, o.2.2.2.2.2.2.2⟩).mono ?_
  rintro e w' ⟨rfl, g', k'⟩
  have hok : Pag.ok ⟨2, 0, 0, l.set i 2⟩ := Pag.ok_mk (by omega) (by omega) (by omega) (by rw [List.length_set]; exact h.map.len)
  exact ⟨rfl, ⟨h.tab.keep k' (by omega), h.sto.keep k' (by omega) (by omega), ⟨_, g', MapPage.put n (-1) (B0 n) M hok rfl⟩, h.map.set i 2 h2 hn (.inr rfl), below_keep h.bel h.bel.size k' (by omega), o⟩, k'⟩
theorem One.give_no (h : One w0 w gb mb sb qb c n l tk) (i : Int) (hi : i < 2 ∨ ∃ j : Nat, i = j ∧ bt l j ≠ 1) :
    Calls Tryd.prog 19 #[.pointer (some ⟨gb, 0, none⟩), .int .i64 i] w fun e w' => e = .returned (.int .i64 1) ∧ Below w.heap.size w w' := by
  obtain ⟨M, h1, hm⟩ := h.g
  have h8 := h.map.ge
  refine ggive_no w gb mb sb qb n c (-1) (B0 n) M tk 0 0 l h.tab h.sto h1 hm i ?_ (by rw [pagesF_map h.map]; omega)
  rcases hi with hi | ⟨j, rfl, hj⟩
  · exact .inl hi
  · exact .inr (usedF_map_false h.map j hj)
theorem One.new (ht : Tab w) (hs : Sto w sb qb n c (-1) (B0 n)) (hg : Grp w gb mb sb none0 0) (h8 : 8 ≤ n) (h64 : n ≤ 64) (hb : Below w0.heap.size w0 w) (ho : w0.heap.size ≤ gb ∧ w0.heap.size ≤ mb ∧ sb < gb ∧ sb < mb ∧ qb < gb ∧ qb < mb ∧ gtab < gb ∧ gtab < mb) : One w0 w gb mb sb qb c n (newL n) 0 :=
  ⟨ht, hs, ⟨_, hg, newMap n (by omega)⟩, isMap_new n h8 h64, hb, ho⟩
end
theorem count_set {l : List UInt8} {n i : Nat} (hi : i < n) (hl : n ≤ l.length) (h1 : bt l i = 1) : ((l.set i 2).take n).count 2 = (l.take n).count 2 + 1 := by
  have h2 : i < (l.take n).length := by rw [List.length_take]; omega
  have h3 : (l.take n)[i] = 1 := by rw [List.getElem_take]; exact (bt_eq l i (by omega) 1).1 h1
  rw [List.take_set, List.count_set h2, h3]
  simp
theorem count_new (n : Nat) (h : n ≤ 240) (h2 : 2 ≤ n) : ((newL n).take n).count 2 = n - 2 := by
  have key : ∀ m, m ≤ n → ((newL n).take m).count 2 = m - 2 := by
    intro m
    induction m with
    | zero => intro _; rfl
    | succ m ih =>
      intro hm
      have hl : m < (newL n).length := by rw [newL_len]; omega
      rw [List.take_succ_eq_append_getElem hl, List.count_append, ih (by omega)]
      have hb := bt_newL n h m
      rw [if_pos (by omega)] at hb
      by_cases h3 : m < 2
      · rw [if_pos h3] at hb
        rw [(bt_eq (newL n) m hl 1).1 hb]
        simp; omega
      · rw [if_neg h3] at hb
        rw [(bt_eq (newL n) m hl 2).1 hb]
        simp; omega
  exact key n (Nat.le_refl n)
theorem count_none {l : List UInt8} {n : Nat} (hl : n ≤ l.length) (h : ∀ i, i < n → bt l i = 1) : (l.take n).count 2 = 0 := by
  rw [List.count_eq_zero]
  intro hm
  obtain ⟨i, hi, e⟩ := List.getElem_of_mem hm
  have hi2 : i < n := by rw [List.length_take] at hi; omega
  have h1 := h i hi2
  rw [List.getElem_take] at e
  rw [(bt_eq l i (by omega) 2).2 e] at h1
  simp at h1

theorem zero_bool (w : World) : (zeroValue 4).run Tryd.prog w = .ok (.bool false) w := by kernel_rfl
/-- Block b is a map of m numbers: those of S. -/
def HadIs (w : World) (b : Nat) (S : Int → Bool) (m : Nat) : Prop :=
  ∃ D : DataW Unit, w.ownsMap Tryd.prog 3 (plainElem Tryd.prog 4) b m D ∧ Maps.size D = m ∧ ∀ i, Maps.has D (kl i) = S i ∧ (S i = true → D.atKey (kl i) (.lit (.bool false)) = .lit (.bool true))
theorem HadIs.block {w w' : World} {b m : Nat} {S : Int → Bool} (h : HadIs w b S m) (e : w'.heap[b]? = w.heap[b]?) : HadIs w' b S m := by
  obtain ⟨D, h1, h2⟩ := h
  exact ⟨D, owns_block h1 e, h2⟩
theorem HadIs.lt {w : World} {b m : Nat} {S : Int → Bool} (h : HadIs w b S m) : b < w.heap.size := by
  obtain ⟨D, h1, h2⟩ := h
  exact h1.lt
theorem HadIs.made (w : World) : HadIs (w.alloc (.map #[] 0)) w.heap.size (fun _ => false) 0 :=
  ⟨.map [], World.ownsMap_made w _ _ _, rfl, fun i => ⟨rfl, fun h => by cases h⟩⟩
theorem bool_inv' {P : Program} {e : TypeId} (he : P.underlying e = some .bool) {v : Value} {z : DataW Unit × List MemPlace} (h : plainElem P e v = some z) : ∃ x, v = .bool x ∧ z = (.lit (.bool x), []) := by
  unfold plainElem at h
  rw [he] at h
  cases v <;> simp at h
  exact ⟨_, rfl, h.symm⟩
theorem bool_inv {v : Value} {z : DataW Unit × List MemPlace} (h : plainElem Tryd.prog 4 v = some z) : ∃ x, v = .bool x ∧ z = (.lit (.bool x), []) := bool_inv' Tryd.underlying4 h
theorem HadIs.look {w : World} {b m : Nat} {S : Int → Bool} (h : HadIs w b S m) (i : Int) (hi : (Lit.int .i64 i).wf = true) :
    (Instr.lookup 48 (.map (some b)) (.int .i64 i) false).run Tryd.prog w = .ok (.bool (S i)) w := by
  obtain ⟨D, h1, h2, h3⟩ := h
  obtain ⟨v, ps, hrun, hv⟩ := h1.lookup ikeyed Tryd.underlying48 (zero_bool w) (plainElem_bool Tryd.underlying4 false) (Maps.keyOf_int_mk Tryd.underlying3 hi)
  obtain ⟨x, rfl, hx⟩ := bool_inv hv
  have hx1 : D.atKey (kl i) (.lit (.bool false)) = .lit (.bool x) := (Prod.mk.inj hx).1
  obtain ⟨h4, h5⟩ := h3 i
  rcases e : S i with _ | _
  · rw [e] at h4
    rw [Maps.atKey_of_not_has h4] at hx1
    simp only [DataW.lit.injEq, Lit.bool.injEq] at hx1
    rw [← hx1] at hrun
    exact hrun
  · rw [h5 e] at hx1
    simp only [DataW.lit.injEq, Lit.bool.injEq] at hx1
    rw [← hx1] at hrun
    exact hrun
theorem HadIs.put {w : World} {b m : Nat} {S : Int → Bool} (h : HadIs w b S m) (i : Int) (hi : (Lit.int .i64 i).wf = true) (hm : m < 1000000) :
    ∃ w', (Instr.mapUpdate 48 (.map (some b)) (.int .i64 i) (.bool true)).run Tryd.prog w = .ok () w' ∧ HadIs w' b (fun j => j == i || S j) (if S i = true then m else m + 1) ∧ w.grownBy w' (some b) := by
  obtain ⟨D, h1, h2, h3⟩ := h
  have hkey := Maps.keyOf_int_mk Tryd.underlying3 hi
  have hisk : WideAt.IsKeyLit (kl i) := ikeyed.key hkey
  obtain ⟨w', hrun, hown, hg⟩ := h1.update ikeyed Tryd.underlying48 (by unfold maxLen; omega) hkey (plainElem_bool Tryd.underlying4 true)
  have htidy := h1.tidy ikeyed
  have hsz := Maps.size_put (k := kl i) htidy (.lit (.bool true))
  rw [(h3 i).1, h2] at hsz
  refine ⟨w', hrun, ⟨D.put (kl i) (.lit (.bool true)), ?_, hsz, fun j => ?_⟩, hg⟩
  · rw [← hsz]; exact owns_tight hown
  · by_cases hj : j = i
    · subst hj
      rw [Maps.has_put_same htidy.isMap hisk, Maps.atKey_put_same htidy.isMap hisk]
      simp
    · rw [Maps.has_put_other (kl_ne hj), Maps.atKey_put_other (kl_ne hj), (h3 j).1]
      simp only [beq_eq_false_iff_ne.2 hj, Bool.false_or]
      exact ⟨trivial, (h3 j).2⟩
theorem HadIs.len {w : World} {b m : Nat} {S : Int → Bool} (h : HadIs w b S m) (ty : TypeId) : (Builtin.len_ #[48] ty #[.map (some b)]).run Tryd.prog w = .ok (.int .i64 m) w := by
  obtain ⟨D, h1, h2, _⟩ := h
  rw [← h2]
  exact h1.len Tryd.underlying48 ty
end Go.Proofs.YtibbmmkjienekaaDoor.Gr
