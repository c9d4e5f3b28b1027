/- Lemmas of the claim, in their order:
- Pages beside the table: taken, written, given back. No program in sight.
- The contract of hash.Store.
- The contract of hash.Store of a value that takes pages.
- The compare functions of the sorts.
- A slice of structs that the call has built, behind the library's sort. No program in sight.
- The contracts of the library's sorts at cells and at entries.
-/
import Derived.Test.YtijhamllnnilbaaGreatDoorU25
import Derived.Deep.LoopGhost
import Derived.Shelf.SlSortCmp.WholeK
import Derived.Test.YtijhamllnnilbaaGreatDoorShelf2
set_option linter.unusedVariables false
set_option linter.unusedSimpArgs false
namespace Go.Proofs.YtijhamllnnilbaaGreatDoor.Ha
open Go.RowKit Go.Proofs.YtijhamllnnilbaaGreatDoor.Mem Go.Proofs.YtijhamllnnilbaaGreatDoor.Pg Go.Proofs.YtijhamllnnilbaaGreatDoor.Gr Go.Proofs.YtijhamllnnilbaaGreatDoor.Sp
set_option linter.unusedVariables false
set_option linter.unusedSimpArgs false
variable {n D : Nat} {pg pg' : Nat → Pag} {t : Tri} {ml : List UInt8} {X : List Nat}
end Go.Proofs.YtijhamllnnilbaaGreatDoor.Ha
namespace Go.Proofs.YtijhamllnnilbaaGreatDoor.Ha
open Go.RowKit Go.Proofs.YtijhamllnnilbaaGreatDoor.Mem Go.Proofs.YtijhamllnnilbaaGreatDoor.Pg Go.Proofs.YtijhamllnnilbaaGreatDoor.Kp Go.Proofs.YtijhamllnnilbaaGreatDoor.Sp Go.Proofs.YtijhamllnnilbaaGreatDoor.Gr
set_option linter.unusedSimpArgs false
set_option linter.unusedVariables false
end Go.Proofs.YtijhamllnnilbaaGreatDoor.Ha
namespace Go.Proofs.YtijhamllnnilbaaGreatDoor.Ha
open Go.RowKit Go.Proofs.YtijhamllnnilbaaGreatDoor.Mem Go.Proofs.YtijhamllnnilbaaGreatDoor.Pg Go.Proofs.YtijhamllnnilbaaGreatDoor.Kp Go.Proofs.YtijhamllnnilbaaGreatDoor.Sp Go.Proofs.YtijhamllnnilbaaGreatDoor.Gr
set_option linter.unusedSimpArgs false
set_option linter.unusedVariables false
theorem ints_own' {w : World} {base n c : Nat} {e : TypeId} {A : Option Addr} {xs : List Int} (h : w.ownsRow base e 1 (.slice A n c) n (ints xs)) (hn : n ≤ 1000) : Ints w A n xs ∧ n ≤ c := by
  have hlen : xs.length = n := by have := h.1; simpa [ints] using this
  rcases h.2 with ⟨h0, h1⟩ | ⟨g, cap, cur, h0, _, hh, hc, _, _, ht⟩
  · refine ⟨⟨hlen, by omega, fun h2 => by omega⟩, by omega⟩
  · injection h0 with h1 h2 h3
    subst h1
    refine ⟨⟨hlen, by omega, fun _ => ⟨g, 0, rfl, lt_of_block hh, fun j hj => ?_⟩⟩, by omega⟩
    have := own_at h j (.int .i64 (xs.getD j 0)) (by simp [ints, List.getElem?_eq_getElem (show j < xs.length by omega)])
    rw [Nat.zero_add]; exact this
theorem natV_ints (l : List Nat) : natV l = ints (toI l) := by simp [natV, ints, toI]
end Go.Proofs.YtijhamllnnilbaaGreatDoor.Ha
namespace Go.Proofs.YtijhamllnnilbaaGreatDoor.Ha
open Go.RowKit Go.Proofs.YtijhamllnnilbaaGreatDoor.Mem Go.Proofs.YtijhamllnnilbaaGreatDoor.Pg Go.Proofs.YtijhamllnnilbaaGreatDoor.Kp Go.Proofs.YtijhamllnnilbaaGreatDoor.Sp Go.Proofs.YtijhamllnnilbaaGreatDoor.Gr
set_option linter.unusedSimpArgs false
set_option linter.unusedVariables false
/-- An entry: key, value. -/
abbrev Ent := List UInt8 × List UInt8
def entC (e : Ent) : List Value := [.string (str e.1), .string (str e.2)]
abbrev entO (k v : ByteArray) : Obj := .cells #[.string k, .string v] 57
set_option maxRecDepth 100000 in
theorem cmpEntry (x y : Ent) (w : World) :
    Calls Tryz.prog 62 #[.agg (entC x).toArray, .agg (entC y).toArray] w fun e w' => e = .returned (.int .i64 (Lib.compareBytes x.1 y.1)) ∧ w' = (w.alloc (entO (str x.1) (str x.2))).alloc (entO (str y.1) (str y.2)) := by
  have hcmp := fun W => Tryz.strings_Compare (str x.1) (str y.1) W
  have e1 : (str x.1).data.toList = x.1 := rfl
  have e2 : (str y.1).data.toList = y.1 := rfl
  rw [e1, e2] at hcmp
  simp only [entC]
  obtain ⟨U1, hU1⟩ : ∃ U, U = str x.1 := ⟨_, rfl⟩
  obtain ⟨U2, hU2⟩ : ∃ U, U = str x.2 := ⟨_, rfl⟩
  obtain ⟨V1, hV1⟩ : ∃ U, U = str y.1 := ⟨_, rfl⟩
  obtain ⟨V2, hV2⟩ : ∃ U, U = str y.2 := ⟨_, rfl⟩
  rw [← hU1, ← hU2, ← hV1, ← hV2]
  rw [← hU1, ← hV1] at hcmp
  generalize Lib.compareBytes x.1 y.1 = R at *
  clear hU1 hU2 hV1 hV2 e1 e2
  have z1 := blk_a1 w #[.string U1, .string U2] 57 (entO V1 V2)
  have z2 := blk_a2 w (entO U1 U2) #[.string V1, .string V2] 57
  have c1 := blk_cell z1
  have c2 := blk_cell z2
  have l1 := lt_of_block z1
  have l2 := lt_of_block z2
  clear z1 z2
  go_enter Tryz.func62, Tryz.ntmps62
  go_wp2_with fail
  with_reducible refine (hcmp _).mono ?_
  rintro e w2 ⟨rfl, rfl⟩
  go_wp2_with fail
  go_ret
  exact ⟨rfl, rfl⟩
end Go.Proofs.YtijhamllnnilbaaGreatDoor.Ha
namespace Go.Proofs.YtijhamllnnilbaaGreatDoor.Ha
open Go.RowKit Go.Proofs.YtijhamllnnilbaaGreatDoor.Mem Go.Sort
set_option linter.unusedSimpArgs false
set_option linter.unusedVariables false
variable {α : Type} [Inhabited α]
theorem flat_at (enc : α → List Value) (k : Nat) (hk : ∀ x, (enc x).length = k) : ∀ (l : List α) (j : Nat), j < l.length * k → (l.flatMap enc)[j]? = (enc (l.getD (j / k) default))[j % k]?
  | [], j, h => by simp at h
  | a :: l, j, h => by
    rw [List.flatMap_cons]
    by_cases hj : j < k
    · rw [List.getElem?_append_left (by rw [hk]; exact hj), Nat.div_eq_of_lt hj, Nat.mod_eq_of_lt hj]; rfl
    · have hk0 : 0 < k := by
        rcases Nat.eq_zero_or_pos k with h0 | h0
        · subst h0; simp at h
        · exact h0
      rw [List.getElem?_append_right (by rw [hk]; omega), hk, flat_at enc k hk l (j - k) (by rw [List.length_cons, Nat.succ_mul] at h; omega)]
      have h1 : j / k = (j - k) / k + 1 := by rw [Nat.div_eq_sub_div hk0 (by omega)]
      have h2 : j % k = (j - k) % k := Nat.mod_eq_sub_mod (by omega)
      rw [h1, h2]; rfl
theorem flatK_toList (enc : α → List Value) (k : Nat) (hk : ∀ x, (enc x).length = k) (d : Array α) : (Go.Sort.flatK enc k d).toList = d.toList.flatMap enc := by
  refine List.ext_getElem? fun j => ?_
  have hlen : (d.toList.flatMap enc).length = d.size * k := by
    have : ∀ l : List α, (l.flatMap enc).length = l.length * k := fun l => by
      induction l with
      | nil => simp
      | cons a l ih => rw [List.flatMap_cons, List.length_append, hk, ih, List.length_cons, Nat.succ_mul]; omega
    rw [this]; simp
  by_cases hj : j < d.size * k
  · have hk0 : 0 < k := by
      rcases Nat.eq_zero_or_pos k with h0 | h0
      · subst h0; simp at hj
      · exact h0
    have hdiv : j / k < d.size := Nat.div_lt_of_lt_mul (by rw [Nat.mul_comm]; exact hj)
    have hmod : j % k < k := Nat.mod_lt _ hk0
    rw [flat_at enc k hk d.toList j (by simpa using hj)]
    have h1 : d.toList.getD (j / k) default = d[j / k]! := by
      rw [List.getD_eq_getElem?_getD, Array.getElem?_toList, Array.getElem?_eq_getElem hdiv, getElem!_pos d _ hdiv]; rfl
    rw [h1]
    rw [Array.getElem?_toList, Array.getElem?_eq_getElem (by simp; exact hj)]
    have h2 := Go.Sort.get_flatK enc k d j hj
    rw [getElem!_pos _ _ (by simp; exact hj)] at h2
    rw [h2, List.getElem?_eq_getElem (by rw [hk]; exact hmod), getElem!_pos _ _ (by rw [hk]; exact hmod)]
  · rw [List.getElem?_eq_none (by simp; omega), List.getElem?_eq_none (by omega)]
theorem holdsK_own {w : World} {base g n cap k : Nat} {e : TypeId} (enc : α → List Value) (hk : ∀ x, (enc x).length = k) {l : List α} (h : w.ownsRow base e k (.slice (some ⟨g, 0, none⟩) n cap) n (l.flatMap enc)) (hn : n = l.length) : HoldsK enc k w g 0 l.toArray := by
  intro j hj
  have hj2 : j < l.length * k := by simpa using hj
  rw [Nat.zero_add]
  refine ⟨?_, own_free h j⟩
  have h1 : (Go.Sort.flatK enc k l.toArray).toList[j]? = (l.flatMap enc)[j]? := by rw [flatK_toList enc k hk]
  have h2 : j < (Go.Sort.flatK enc k l.toArray).size := hj
  rw [Array.getElem?_toList, Array.getElem?_eq_getElem h2] at h1
  have h3 := getElem!_pos (Go.Sort.flatK enc k l.toArray) j h2
  show w.cell? ⟨g, j, none⟩ = some ((Go.Sort.flatK enc k l.toArray)[j]!)
  rw [h3]
  exact own_at h j _ h1.symm
theorem heap_sortedK {w : World} {g m k : Nat} {os : Array Obj} {cur : Array Value} {e : TypeId} {fr : Nat × Nat} (enc : α → List Value) (d : Array α) (hb : w.heap[g]? = some (.cells cur e fr)) :
    (sortWorldK enc k w g 0 m d os).heap[g]? = some (.cells (putCells id 0 (Go.Sort.flatK enc k d) cur) e fr) := by
  have hg : g < w.heap.size := (Array.getElem?_eq_some_iff.1 hb).1
  unfold sortWorldK putRowK
  rw [heap_grow_old _ _ (by simpa using hg)]
  simp [putRow, mapBlock, Go.Sort.ahead, Array.getElem?_modify, hb, onCells]
theorem keep_sortedK {w : World} {g m k : Nat} {os : Array Obj} (enc : α → List Value) (d : Array α) : Kp.Keep (fun j => j = g) w (sortWorldK enc k w g 0 m d os) := by
  refine ⟨rfl, rfl, rfl, by simp [sortWorldK, putRowK], fun i hi hne => ?_⟩
  unfold sortWorldK putRowK
  rw [heap_grow_old _ _ (by simpa using hi)]
  have : ¬ g = i := fun e => hne e.symm
  simp [putRow, mapBlock, Go.Sort.ahead, Array.getElem?_modify, this]
theorem take_putCellsK (cur : Array Value) (F : Array Value) (h : F.size ≤ cur.size) : (putCells id 0 F cur).toList.take F.size = F.toList := by
  apply List.ext_getElem?
  intro j
  by_cases hj : j < F.size
  · rw [List.getElem?_take_of_lt hj, Array.getElem?_toList, Array.getElem?_toList]
    simp [putCells, hj, show j < cur.size by omega]
  · rw [List.getElem?_take_eq_none (by omega), List.getElem?_eq_none (by simp; omega)]
theorem ownsRow_sortedK {w : World} {base g n cap m k : Nat} {e : TypeId} {os : Array Obj} (enc : α → List Value) (hk : ∀ x, (enc x).length = k) {l : List α} {d : Array α} (h : w.ownsRow base e k (.slice (some ⟨g, 0, none⟩) n cap) n (l.flatMap enc)) (hn : n = l.length) (hd : d.size = n) :
    (sortWorldK enc k w g 0 m d os).ownsRow base e k (.slice (some ⟨g, 0, none⟩) n cap) n (d.toList.flatMap enc) := by
  have hlen : (d.toList.flatMap enc).length = n * k := by
    rw [← flatK_toList enc k hk, Array.length_toList]; simp [hd]
  rcases h.2 with ⟨h0, _⟩ | ⟨g', cap', cur, h0, hbg, hb, h1, h2, h3, h4⟩
  · cases h0
  · injection h0 with e1 e2 e3
    injection e1 with e1
    injection e1 with e1
    subst e1 e3
    refine ⟨hlen, .inr ⟨g, cap, _, rfl, hbg, heap_sortedK enc d hb, h1, h2, by simp [putCells, h3], ?_⟩⟩
    rw [← flatK_toList enc k hk]
    have hs : (Go.Sort.flatK enc k d).size = n * k := by simp [hd]
    have := take_putCellsK cur (Go.Sort.flatK enc k d) (by rw [hs, h3]; exact Nat.mul_le_mul_right k h1)
    rw [hs] at this
    exact this
end Go.Proofs.YtijhamllnnilbaaGreatDoor.Ha
namespace Go.Proofs.YtijhamllnnilbaaGreatDoor.Ha
open Go.RowKit Go.Proofs.YtijhamllnnilbaaGreatDoor.Mem Go.Proofs.YtijhamllnnilbaaGreatDoor.Kp Go.Sort Go.Shelf
set_option linter.unusedSimpArgs false
set_option linter.unusedVariables false
theorem swo_key {α : Type} (key : α → List UInt8) : SWO (ltOf fun x y : α => Lib.compareBytes (key x) (key y)) := by
  have hlt : ∀ x y : α, ltOf (fun x y : α => Lib.compareBytes (key x) (key y)) x y = decide (key x < key y) := fun x y => by
    unfold ltOf
    exact decide_eq_decide.2 (cmp_lt_iff _ _)
  refine ⟨fun x => ?_, fun x y z h1 h2 => ?_, fun x y z h1 h2 => ?_⟩
  · rw [hlt]; exact decide_eq_false (List.lt_irrefl _)
  · rw [hlt] at *
    exact decide_eq_true (List.lt_trans (of_decide_eq_true h1) (of_decide_eq_true h2))
  · rw [hlt] at *
    exact decide_eq_false (fun h3 => by
      have a := of_decide_eq_false h1
      have b := of_decide_eq_false h2
      exact (List.not_lt.2 (List.le_trans (List.not_lt.1 b) (List.not_lt.1 a))) h3)
/-- Sorted by their keys; equals in whatever order. -/
def SortedK {α : Type} (key : α → List UInt8) (l : List α) : Prop := l.Pairwise fun a b => ¬ key b < key a
theorem sortedIn_list {α : Type} [Inhabited α] (key : α → List UInt8) (d : Array α) (h : SortedIn (ltOf fun x y : α => Lib.compareBytes (key x) (key y)) 0 d.size d) : SortedK key d.toList := by
  unfold SortedK
  rw [List.pairwise_iff_getElem]
  intro i j hi hj hij hlt
  have h1 := h i j (Nat.zero_le _) hij (by simpa using hj)
  rw [getElem!_pos d i (by simpa using hi), getElem!_pos d j (by simpa using hj)] at h1
  unfold ltOf at h1
  exact (of_decide_eq_false h1) ((cmp_lt_iff _ _).2 (by simpa using hlt))
theorem al2_grow (w : World) (a b : Obj) : (w.alloc a).alloc b = grow (w.drewN 0) #[a, b] := by
  rw [alloc_eq_grow, alloc_eq_grow, grow_grow]; rfl
instance : Inhabited Cel := ⟨⟨[], [], 0, 0⟩⟩
theorem sortEntry_ok (w : World) (base g n cap : Nat) (l : List Ent) (h : w.ownsRow base 57 2 (.slice (some ⟨g, 0, none⟩) n cap) n (l.flatMap entC)) (hn : n = l.length) (hl : n ≤ 100000) :
    Calls Tryz.prog 61 #[.slice (some ⟨g, 0, none⟩) n cap, .func (.func 62) #[] #[]] w fun e w' =>
      e = .returned (.tuple #[]) ∧ ∃ l' : List Ent, l'.Perm l ∧ SortedK Prod.fst l' ∧ w'.ownsRow base 57 2 (.slice (some ⟨g, 0, none⟩) n cap) n (l'.flatMap entC) ∧ Keep (fun j => j = g) w w' := by
  have eg : ∀ args w, (callFunc 62 args).run Tryz.prog w = .ok (.enter 62 args) w := enters_of Tryz.func62 (by kernel_rfl) rfl
  have hcmp : CmpLays Tryz.prog 62 #[] entC 2 (fun x y => Lib.compareBytes x.1 y.1) g 0 l.toArray.size w := fun _ _ _ _ x y =>
    (cmpEntry x y _).mono fun e w' ⟨h1, h2⟩ => ⟨h1, 0, _, h2.trans (al2_grow _ _ _)⟩
  have hcon := AnyQ.slices_SortFunc Tryz.sortEntry 2 Tryz.isAgg57 Tryz.sizeOf57 entC (fun _ => rfl) (fun x v hv => by simp [entC] at hv; rcases hv with rfl | rfl <;> rfl) (fun x y => Lib.compareBytes x.1 y.1) (swo_key Prod.fst) 62 #[] g 0 cap l.toArray w eg hcmp (holdsK_own entC (fun _ => rfl) h hn) (own_lt h g rfl) (by simp; omega)
  change Calls Tryz.prog 61 _ _ _ at hcon
  have hsz : l.toArray.size = n := by simp [hn]
  rw [hsz] at hcon
  refine hcon.mono ?_
  rintro e w' ⟨rfl, d', m, os, hp, hs, rfl⟩
  have hd : d'.size = n := by have := hp.1; simp at this; omega
  refine ⟨rfl, d'.toList, ?_, sortedIn_list Prod.fst d' (by rw [hd]; exact hs), ownsRow_sortedK entC (fun _ => rfl) h hn hd, keep_sortedK _ _⟩
  have h2 := hp.2.2
  have e1 : d'.extract 0 n = d' := by rw [← hd]; exact Array.extract_size
  have e2 : l.toArray.extract 0 n = l.toArray := by rw [← hsz]; exact Array.extract_size
  rw [e1, e2] at h2
  exact h2
end Go.Proofs.YtijhamllnnilbaaGreatDoor.Ha
