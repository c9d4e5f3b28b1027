/- Lemmas of the claim, in their order:
- The compare functions of the sorts.
- A slice of structs that the call has built, behind the library's sort. No program in sight.
- The contracts of the library's sorts at cells and at entries.
- The contract of hash's leads.
- The buckets of a directory, each once. No program in sight.
- The pages that a table's check reaches. No program in sight.
-/
import Derived.Test.YtijhamllnnilbaaGreatDoorR30
import Derived.Shelf.SlSortCmp.WholeK
import Derived.Test.YtijhamllnnilbaaGreatDoorShelf2
import Derived.Test.YtijhamllnnilbaaGreatDoorR29
set_option linter.unusedVariables false
set_option linter.unusedSimpArgs false
namespace Go.Proofs.YtijhamllnnilbaaGreatDoor.Ha
open Go.RowKit Go.Proofs.YtijhamllnnilbaaGreatDoor.Mem Go.Proofs.YtijhamllnnilbaaGreatDoor.Pg Go.Proofs.YtijhamllnnilbaaGreatDoor.Kp Go.Proofs.YtijhamllnnilbaaGreatDoor.Sp Go.Proofs.YtijhamllnnilbaaGreatDoor.Gr
set_option linter.unusedSimpArgs false
set_option linter.unusedVariables false
set_option maxRecDepth 100000 in
theorem cmpCell (x y : Cel) (w : World) :
 Calls Tryz.prog 253 #[x.v, y.v] w fun e w' => e = .returned (.int .i64 (Lib.compareBytes x.key y.key)) ∧ w' = (w.alloc (celO (str x.key) (str x.val) x.blob x.size)).alloc (celO (str y.key) (str y.val) y.blob y.size) := by
 have hcmp := fun W => Tryz.strings_Compare (str x.key) (str y.key) W
 have e1 : (str x.key).data.toList = x.key := rfl
 have e2 : (str y.key).data.toList = y.key := rfl
 rw [e1, e2] at hcmp
 simp only [Cel.v]
 obtain ⟨U1, hU1⟩ : ∃ U, U = str x.key := ⟨_, rfl⟩
 obtain ⟨U2, hU2⟩ : ∃ U, U = str x.val := ⟨_, rfl⟩
 obtain ⟨V1, hV1⟩ : ∃ U, U = str y.key := ⟨_, rfl⟩
 obtain ⟨V2, hV2⟩ : ∃ U, U = str y.val := ⟨_, rfl⟩
 rw [← hU1, ← hU2, ← hV1, ← hV2]
 rw [← hU1, ← hV1] at hcmp
 generalize Lib.compareBytes x.key y.key = R at *
 clear hU1 hU2 hV1 hV2 e1 e2
 have z1 := blk_a1 w #[.string U1, .string U2, .int .i64 (x.blob : Int), .int .i64 (x.size : Int)] 33 (celO V1 V2 y.blob y.size)
 have z2 := blk_a2 w (celO U1 U2 x.blob x.size) #[.string V1, .string V2, .int .i64 (y.blob : Int), .int .i64 (y.size : Int)] 33
 have c1 := blk_cell z1
 have c2 := blk_cell z2
 have l1 := lt_of_block z1
 have l2 := lt_of_block z2
 clear z1 z2
 go_enter Tryz.func253, Tryz.ntmps253
 go_wp2_with fail
 with_reducible refine (hcmp _).mono ?_
 rintro e w2 ⟨rfl, rfl⟩
 go_wp2_with fail
 go_ret
 exact ⟨rfl, rfl⟩
abbrev Ent := List UInt8 × List UInt8
def entC (e : Ent) : List Value := [.string (str e.1), .string (str e.2)]
abbrev entO (k v : ByteArray) : Obj := .cells #[.string k, .string v] 57
set_option maxRecDepth 100000 in
theorem cmpEntry (x y : Ent) (w : World) :
 Calls Tryz.prog 62 #[.agg (entC x).toArray, .agg (entC y).toArray] w fun e w' => e = .returned (.int .i64 (Lib.compareBytes x.1 y.1)) ∧ w' = (w.alloc (entO (str x.1) (str x.2))).alloc (entO (str y.1) (str y.2)) := by
 have hcmp := fun W => Tryz.strings_Compare (str x.1) (str y.1) W
 have e1 : (str x.1).data.toList = x.1 := rfl
 have e2 : (str y.1).data.toList = y.1 := rfl
 rw [e1, e2] at hcmp
 simp only [entC]
 obtain ⟨U1, hU1⟩ : ∃ U, U = str x.1 := ⟨_, rfl⟩
 obtain ⟨U2, hU2⟩ : ∃ U, U = str x.2 := ⟨_, rfl⟩
 obtain ⟨V1, hV1⟩ : ∃ U, U = str y.1 := ⟨_, rfl⟩
 obtain ⟨V2, hV2⟩ : ∃ U, U = str y.2 := ⟨_, rfl⟩
 rw [← hU1, ← hU2, ← hV1, ← hV2]
 rw [← hU1, ← hV1] at hcmp
 generalize Lib.compareBytes x.1 y.1 = R at *
 clear hU1 hU2 hV1 hV2 e1 e2
 have z1 := blk_a1 w #[.string U1, .string U2] 57 (entO V1 V2)
 have z2 := blk_a2 w (entO U1 U2) #[.string V1, .string V2] 57
 have c1 := blk_cell z1
 have c2 := blk_cell z2
 have l1 := lt_of_block z1
 have l2 := lt_of_block z2
 clear z1 z2
 go_enter Tryz.func62, Tryz.ntmps62
 go_wp2_with fail
 with_reducible refine (hcmp _).mono ?_
 rintro e w2 ⟨rfl, rfl⟩
 go_wp2_with fail
 go_ret
 exact ⟨rfl, rfl⟩
end Go.Proofs.YtijhamllnnilbaaGreatDoor.Ha
namespace Go.Proofs.YtijhamllnnilbaaGreatDoor.Ha
open Go.RowKit Go.Proofs.YtijhamllnnilbaaGreatDoor.Mem Go.Sort
set_option linter.unusedSimpArgs false
set_option linter.unusedVariables false
variable {α : Type} [Inhabited α]
theorem flat_at (enc : α → List Value) (k : Nat) (hk : ∀ x, (enc x).length = k) : ∀ (l : List α) (j : Nat), j < l.length * k → (l.flatMap enc)[j]? = (enc (l.getD (j / k) default))[j % k]?
 | [], j, h => by simp at h
 | a :: l, j, h => by
  rw [List.flatMap_cons]
  by_cases hj : j < k
  · rw [List.getElem?_append_left (by rw [hk]; exact hj), Nat.div_eq_of_lt hj, Nat.mod_eq_of_lt hj]; rfl
  · have hk0 : 0 < k := by
     rcases Nat.eq_zero_or_pos k with h0 | h0
     · subst h0; simp at h
     · exact h0
    rw [List.getElem?_append_right (by rw [hk]; omega), hk, flat_at enc k hk l (j - k) (by rw [List.length_cons, Nat.succ_mul] at h; omega)]
    have h1 : j / k = (j - k) / k + 1 := by rw [Nat.div_eq_sub_div hk0 (by omega)]
    have h2 : j % k = (j - k) % k := Nat.mod_eq_sub_mod (by omega)
    rw [h1, h2]; rfl
theorem flatK_toList (enc : α → List Value) (k : Nat) (hk : ∀ x, (enc x).length = k) (d : Array α) : (Go.Sort.flatK enc k d).toList = d.toList.flatMap enc := by
 refine List.ext_getElem? fun j => ?_
 have hlen : (d.toList.flatMap enc).length = d.size * k := by
  have : ∀ l : List α, (l.flatMap enc).length = l.length * k := fun l => by
   induction l with
   | nil => simp
   | cons a l ih => rw [List.flatMap_cons, List.length_append, hk, ih, List.length_cons, Nat.succ_mul]; omega
  rw [this]; simp
 by_cases hj : j < d.size * k
 · have hk0 : 0 < k := by
    rcases Nat.eq_zero_or_pos k with h0 | h0
    · subst h0; simp at hj
    · exact h0
   have hdiv : j / k < d.size := Nat.div_lt_of_lt_mul (by rw [Nat.mul_comm]; exact hj)
   have hmod : j % k < k := Nat.mod_lt _ hk0
   rw [flat_at enc k hk d.toList j (by simpa using hj)]
   have h1 : d.toList.getD (j / k) default = d[j / k]! := by
    rw [List.getD_eq_getElem?_getD, Array.getElem?_toList, Array.getElem?_eq_getElem hdiv, getElem!_pos d _ hdiv]; rfl
   rw [h1]
   rw [Array.getElem?_toList, Array.getElem?_eq_getElem (by simp; exact hj)]
   have h2 := Go.Sort.get_flatK enc k d j hj
   rw [getElem!_pos _ _ (by simp; exact hj)] at h2
   rw [h2, List.getElem?_eq_getElem (by rw [hk]; exact hmod), getElem!_pos _ _ (by rw [hk]; exact hmod)]
 · rw [List.getElem?_eq_none (by simp; omega), List.getElem?_eq_none (by omega)]
theorem holdsK_own {w : World} {base g n cap k : Nat} {e : TypeId} (enc : α → List Value) (hk : ∀ x, (enc x).length = k) {l : List α} (h : w.ownsRow base e k (.slice (some ⟨g, 0, none⟩) n cap) n (l.flatMap enc)) (hn : n = l.length) : HoldsK enc k w g 0 l.toArray := by
 intro j hj
 have hj2 : j < l.length * k := by simpa using hj
 rw [Nat.zero_add]
 refine ⟨?_, own_free h j⟩
 have h1 : (Go.Sort.flatK enc k l.toArray).toList[j]? = (l.flatMap enc)[j]? := by rw [flatK_toList enc k hk]
 have h2 : j < (Go.Sort.flatK enc k l.toArray).size := hj
 rw [Array.getElem?_toList, Array.getElem?_eq_getElem h2] at h1
 have h3 := getElem!_pos (Go.Sort.flatK enc k l.toArray) j h2
 show w.cell? ⟨g, j, none⟩ = some ((Go.Sort.flatK enc k l.toArray)[j]!)
 rw [h3]
 exact own_at h j _ h1.symm
theorem heap_sortedK {w : World} {g m k : Nat} {os : Array Obj} {cur : Array Value} {e : TypeId} {fr : Nat × Nat} (enc : α → List Value) (d : Array α) (hb : w.heap[g]? = some (.cells cur e fr)) :
 (sortWorldK enc k w g 0 m d os).heap[g]? = some (.cells (putCells id 0 (Go.Sort.flatK enc k d) cur) e fr) := by
 have hg : g < w.heap.size := (Array.getElem?_eq_some_iff.1 hb).1
 unfold sortWorldK putRowK
 rw [heap_grow_old _ _ (by simpa using hg)]
 simp [putRow, mapBlock, Go.Sort.ahead, Array.getElem?_modify, hb, onCells]
theorem keep_sortedK {w : World} {g m k : Nat} {os : Array Obj} (enc : α → List Value) (d : Array α) : Kp.Keep (fun j => j = g) w (sortWorldK enc k w g 0 m d os) := by
 refine ⟨rfl, rfl, rfl, by simp [sortWorldK, putRowK], fun i hi hne => ?_⟩
 unfold sortWorldK putRowK
 rw [heap_grow_old _ _ (by simpa using hi)]
 have : ¬ g = i := fun e => hne e.symm
 simp [putRow, mapBlock, Go.Sort.ahead, Array.getElem?_modify, this]
theorem take_putCellsK (cur : Array Value) (F : Array Value) (h : F.size ≤ cur.size) : (putCells id 0 F cur).toList.take F.size = F.toList := by
 apply List.ext_getElem?
 intro j
 by_cases hj : j < F.size
 · rw [List.getElem?_take_of_lt hj, Array.getElem?_toList, Array.getElem?_toList]
   simp [putCells, hj, show j < cur.size by omega]
 · rw [List.getElem?_take_eq_none (by omega), List.getElem?_eq_none (by simp; omega)]
theorem ownsRow_sortedK {w : World} {base g n cap m k : Nat} {e : TypeId} {os : Array Obj} (enc : α → List Value) (hk : ∀ x, (enc x).length = k) {l : List α} {d : Array α} (h : w.ownsRow base e k (.slice (some ⟨g, 0, none⟩) n cap) n (l.flatMap enc)) (hn : n = l.length) (hd : d.size = n) :
 (sortWorldK enc k w g 0 m d os).ownsRow base e k (.slice (some ⟨g, 0, none⟩) n cap) n (d.toList.flatMap enc) := by
 have hlen : (d.toList.flatMap enc).length = n * k := by
  rw [← flatK_toList enc k hk, Array.length_toList]; simp [hd]
 rcases h.2 with ⟨h0, _⟩ | ⟨g', cap', cur, h0, hbg, hb, h1, h2, h3, h4⟩
 · cases h0
 · injection h0 with e1 e2 e3
   injection e1 with e1
   injection e1 with e1
   subst e1 e3
   refine ⟨hlen, .inr ⟨g, cap, _, rfl, hbg, heap_sortedK enc d hb, h1, h2, by simp [putCells, h3], ?_⟩⟩
   rw [← flatK_toList enc k hk]
   have hs : (Go.Sort.flatK enc k d).size = n * k := by simp [hd]
   have := take_putCellsK cur (Go.Sort.flatK enc k d) (by rw [hs, h3]; exact Nat.mul_le_mul_right k h1)
   rw [hs] at this
   exact this
end Go.Proofs.YtijhamllnnilbaaGreatDoor.Ha
namespace Go.Proofs.YtijhamllnnilbaaGreatDoor.Ha
open Go.RowKit Go.Proofs.YtijhamllnnilbaaGreatDoor.Mem Go.Proofs.YtijhamllnnilbaaGreatDoor.Kp Go.Sort Go.Shelf
set_option linter.unusedSimpArgs false
set_option linter.unusedVariables false
theorem swo_key {α : Type} (key : α → List UInt8) : SWO (ltOf fun x y : α => Lib.compareBytes (key x) (key y)) := by
 have hlt : ∀ x y : α, ltOf (fun x y : α => Lib.compareBytes (key x) (key y)) x y = decide (key x < key y) := fun x y => by
  unfold ltOf
  exact decide_eq_decide.2 (cmp_lt_iff _ _)
 refine ⟨fun x => ?_, fun x y z h1 h2 => ?_, fun x y z h1 h2 => ?_⟩
 · rw [hlt]; exact decide_eq_false (List.lt_irrefl _)
 · rw [hlt] at *
   exact decide_eq_true (List.lt_trans (of_decide_eq_true h1) (of_decide_eq_true h2))
 · rw [hlt] at *
   exact decide_eq_false (fun h3 => by
    have a := of_decide_eq_false h1
    have b := of_decide_eq_false h2
    exact (List.not_lt.2 (List.le_trans (List.not_lt.1 b) (List.not_lt.1 a))) h3)
def SortedK {α : Type} (key : α → List UInt8) (l : List α) : Prop := l.Pairwise fun a b => ¬ key b < key a
theorem sortedIn_list {α : Type} [Inhabited α] (key : α → List UInt8) (d : Array α) (h : SortedIn (ltOf fun x y : α => Lib.compareBytes (key x) (key y)) 0 d.size d) : SortedK key d.toList := by
 unfold SortedK
 rw [List.pairwise_iff_getElem]
 intro i j hi hj hij hlt
 have h1 := h i j (Nat.zero_le _) hij (by simpa using hj)
 rw [getElem!_pos d i (by simpa using hi), getElem!_pos d j (by simpa using hj)] at h1
 unfold ltOf at h1
 exact (of_decide_eq_false h1) ((cmp_lt_iff _ _).2 (by simpa using hlt))
theorem al2_grow (w : World) (a b : Obj) : (w.alloc a).alloc b = grow (w.drewN 0) #[a, b] := by
 rw [alloc_eq_grow, alloc_eq_grow, grow_grow]; rfl
instance : Inhabited Cel := ⟨⟨[], [], 0, 0⟩⟩
theorem sortCell_ok (w : World) (base g n cap : Nat) (l : List Cel) (h : w.ownsRow base 33 4 (.slice (some ⟨g, 0, none⟩) n cap) n (flatC l)) (hn : n = l.length) (hl : n ≤ 100000) :
 Calls Tryz.prog 252 #[.slice (some ⟨g, 0, none⟩) n cap, .func (.func 253) #[] #[]] w fun e w' =>
  e = .returned (.tuple #[]) ∧ ∃ l' : List Cel, l'.Perm l ∧ SortedK Cel.key l' ∧ w'.ownsRow base 33 4 (.slice (some ⟨g, 0, none⟩) n cap) n (flatC l') ∧ Keep (fun j => j = g) w w' := by
 have eg : ∀ args w, (callFunc 253 args).run Tryz.prog w = .ok (.enter 253 args) w := enters_of Tryz.func253 (by kernel_rfl) rfl
 have hcmp : CmpLays Tryz.prog 253 #[] Cel.cells 4 (fun x y => Lib.compareBytes x.key y.key) g 0 l.toArray.size w := fun _ _ _ _ x y =>
  (cmpCell x y _).mono fun e w' ⟨h1, h2⟩ => ⟨h1, 0, _, h2.trans (al2_grow _ _ _)⟩
 have hcon := AnyQ.slices_SortFunc Tryz.sortCell 4 Tryz.isAgg33 Tryz.sizeOf33 Cel.cells (fun _ => rfl) (fun x v hv => by simp [Cel.cells] at hv; rcases hv with rfl | rfl | rfl | rfl <;> rfl) (fun x y => Lib.compareBytes x.key y.key) (swo_key Cel.key) 253 #[] g 0 cap l.toArray w eg hcmp (holdsK_own Cel.cells (fun _ => rfl) h hn) (own_lt h g rfl) (by simp; omega)
 change Calls Tryz.prog 252 _ _ _ at hcon
 have hsz : l.toArray.size = n := by simp [hn]
 rw [hsz] at hcon
 refine hcon.mono ?_
 rintro e w' ⟨rfl, d', m, os, hp, hs, rfl⟩
 have hd : d'.size = n := by have := hp.1; simp at this; omega
 refine ⟨rfl, d'.toList, ?_, sortedIn_list Cel.key d' (by rw [hd]; exact hs), ownsRow_sortedK Cel.cells (fun _ => rfl) h hn hd, keep_sortedK _ _⟩
 have h2 := hp.2.2
 have e1 : d'.extract 0 n = d' := by rw [← hd]; exact Array.extract_size
 have e2 : l.toArray.extract 0 n = l.toArray := by rw [← hsz]; exact Array.extract_size
 rw [e1, e2] at h2
 exact h2
theorem sortEntry_ok (w : World) (base g n cap : Nat) (l : List Ent) (h : w.ownsRow base 57 2 (.slice (some ⟨g, 0, none⟩) n cap) n (l.flatMap entC)) (hn : n = l.length) (hl : n ≤ 100000) :
 Calls Tryz.prog 61 #[.slice (some ⟨g, 0, none⟩) n cap, .func (.func 62) #[] #[]] w fun e w' =>
  e = .returned (.tuple #[]) ∧ ∃ l' : List Ent, l'.Perm l ∧ SortedK Prod.fst l' ∧ w'.ownsRow base 57 2 (.slice (some ⟨g, 0, none⟩) n cap) n (l'.flatMap entC) ∧ Keep (fun j => j = g) w w' := by
 have eg : ∀ args w, (callFunc 62 args).run Tryz.prog w = .ok (.enter 62 args) w := enters_of Tryz.func62 (by kernel_rfl) rfl
 have hcmp : CmpLays Tryz.prog 62 #[] entC 2 (fun x y => Lib.compareBytes x.1 y.1) g 0 l.toArray.size w := fun _ _ _ _ x y =>
  (cmpEntry x y _).mono fun e w' ⟨h1, h2⟩ => ⟨h1, 0, _, h2.trans (al2_grow _ _ _)⟩
 have hcon := AnyQ.slices_SortFunc Tryz.sortEntry 2 Tryz.isAgg57 Tryz.sizeOf57 entC (fun _ => rfl) (fun x v hv => by simp [entC] at hv; rcases hv with rfl | rfl <;> rfl) (fun x y => Lib.compareBytes x.1 y.1) (swo_key Prod.fst) 62 #[] g 0 cap l.toArray w eg hcmp (holdsK_own entC (fun _ => rfl) h hn) (own_lt h g rfl) (by simp; omega)
 change Calls Tryz.prog 61 _ _ _ at hcon
 have hsz : l.toArray.size = n := by simp [hn]
 rw [hsz] at hcon
 refine hcon.mono ?_
 rintro e w' ⟨rfl, d', m, os, hp, hs, rfl⟩
 have hd : d'.size = n := by have := hp.1; simp at this; omega
 refine ⟨rfl, d'.toList, ?_, sortedIn_list Prod.fst d' (by rw [hd]; exact hs), ownsRow_sortedK entC (fun _ => rfl) h hn hd, keep_sortedK _ _⟩
 have h2 := hp.2.2
 have e1 : d'.extract 0 n = d' := by rw [← hd]; exact Array.extract_size
 have e2 : l.toArray.extract 0 n = l.toArray := by rw [← hsz]; exact Array.extract_size
 rw [e1, e2] at h2
 exact h2
end Go.Proofs.YtijhamllnnilbaaGreatDoor.Ha
namespace Go.Proofs.YtijhamllnnilbaaGreatDoor.Ha
open Go.RowKit Go.Proofs.YtijhamllnnilbaaGreatDoor.Mem Go.Proofs.YtijhamllnnilbaaGreatDoor.Pg Go.Proofs.YtijhamllnnilbaaGreatDoor.Kp Go.Proofs.YtijhamllnnilbaaGreatDoor.Sp Go.Proofs.YtijhamllnnilbaaGreatDoor.Gr
set_option linter.unusedSimpArgs false
set_option linter.unusedVariables false
theorem cellsP_getLe {ps : List (Nat × List Cel)} (hf : ∀ p, p ∈ ps → Fits p.2) (hl : ps.length ≤ 64) : (cellsP ps).length ≤ 64 * 59 := by
 have := cellsP_le ps (fun p hp => (hf p hp).len)
 omega
theorem Tb.at_key {n D : Nat} {pg : Nat → Pag} {t : Tri} (T : Tb n pg D t) (h64 : n ≤ 64) (key : List UInt8) (W : World) :
 Calls Tryz.prog 133 #[.agg #[.int .i64 1, .int .i64 (D : Int), .int .i64 0, .string (Dr.bdy (entsF D t))], .int .i64 (bitsF key D)] W fun e w' => e = .returned (.tuple #[.int .i64 ((t.at' (sumF key)).n : Int), .bool true]) ∧ Below W.heap.size W w' := by
 have hb2 : bitsF key D < 2 ^ D := Nat.mod_lt _ (Nat.two_pow_pos D)
 have hat := Dr.good_at (T.good h64) (bitsF key D) (by rw [entsF_len]; exact hb2) W
 have hent : (entsF D t)[bitsF key D]'(by rw [entsF_len]; exact hb2) = ((t.at' (sumF key)).n : Int) := by
  have h1 := entsF_get D t (bitsF key D) hb2
  rw [List.getElem?_eq_getElem (by rw [entsF_len]; exact hb2)] at h1
  injection h1 with h1
  rw [h1]
  unfold bitsF
  rw [(t.at_mod (sumF key) D (Nat.le_trans (t.dep_le _) T.hi)).1]
 have hgd : (entsF D t).getD (bitsF key D) 0 = ((t.at' (sumF key)).n : Int) := by
  rw [List.getD_eq_getElem?_getD, List.getElem?_eq_getElem (by rw [entsF_len]; exact hb2), Option.getD_some, hent]
 rw [hgd] at hat
 exact hat
set_option maxRecDepth 100000 in
set_option maxHeartbeats 4000000 in
theorem leads_ok (w : World) (gb n D tb cb C i : Nat) (pg : Nat → Pag) (t : Tri) (T : Tb n pg D t) (h64 : n ≤ 64) (htb : w.heap[tb]? = some (tbO gb D (Dr.bdy (entsF D t)))) (hc : Ch C w cb gb ((t.at' i).pags (t.dep i))) :
 Calls Tryz.prog 69 #[.pointer (some ⟨tb, 0, none⟩), .pointer (some ⟨cb, 0, none⟩)] w fun e w' => e = .returned (.bool true) ∧ Below w.heap.size w w' := by
 have hm := t.at_mem i
 have hfits := T.fits _ hm
 have hlen := (T.chn h64 i).len
 have hLl : ((t.at' i).pags (t.dep i)).length = (t.at' i).pgs.length := by unfold Lf.pags; exact pagsF_len ..
 have hpos : 0 < (t.at' i).pgs.length := Nat.succ_pos _
 have hcel := ccells_any w C cb gb _ (t.at' i).pgs hc (bkL_pags 3 _ (.inl rfl) _ hfits) (by omega) (by omega)
 have htot := cellsP_getLe hfits hlen
 obtain ⟨nb, pb, cn, cp, hf⟩ := hc.form (by omega)
 have hnum : w.cell? ⟨nb, 0, none⟩ = some (.int .i64 ((t.at' i).n : Int)) := hf.num 0 _ _ rfl
 have hnl := hf.nl
 have h0 : (0 : Int) < (((t.at' i).pags (t.dep i)).length : Int) := by omega
 have hstep : ∀ x, x ∈ cellsP (t.at' i).pgs → (∀ W, Calls Tryz.prog 134 #[.string (str x.key), .int .i64 (D : Int)] W fun e w' => e = .returned (.int .i64 (bitsF x.key D)) ∧ Below W.heap.size W w') ∧
  (∀ W, Calls Tryz.prog 133 #[.agg #[.int .i64 1, .int .i64 (D : Int), .int .i64 0, .string (Dr.bdy (entsF D t))], .int .i64 (bitsF x.key D)] W fun e w' => e = .returned (.tuple #[.int .i64 ((t.at' i).n : Int), .bool true]) ∧ Below W.heap.size W w') := fun x hx => by
  obtain ⟨p, hp, hxp⟩ := List.mem_flatMap.1 hx
  have hko := ((hfits p hp).ok x hxp).key.2
  refine ⟨fun W => bits_any x.key D (by have := T.d5; omega) W (by omega), fun W => ?_⟩
  have h1 := T.at_key h64 x.key W
  rw [T.lead _ hm x hx] at h1
  exact h1
 obtain ⟨S, hS⟩ : ∃ S, S = Dr.bdy (entsF D t) := ⟨_, rfl⟩
 rw [← hS] at hstep htb
 generalize hbn : ((t.at' i).n : Int) = bn at *
 generalize hLL : ((t.at' i).pags (t.dep i)).length = LL at *
 generalize hcs : cellsP (t.at' i).pgs = cs at *
 have HS := Lib.hid hstep
 have HT := Lib.hid htb
 have HF := Lib.hid hf
 have HN := Lib.hid hnum
 clear hS hbn hcs hstep htb hf hnum hc T hm hfits hlen hpos
 go_enter Tryz.func69, Tryz.ntmps69
 go_wp2_with fail
 with_reducible refine hcel.mono ?_
 rintro e w1 ⟨A, cap, rfl, hown, hb1⟩
 have OW := Lib.hid hown
 have BB := Lib.hid hb1
 have B0 : Hid (Below w1.heap.size w1 w1) := Lib.hid (Below.refl _ _)
 clear hown hb1 hcel
 go_wp2_with fail
 go_loopw [12] (fun v wr => ∃ j : Nat, v = .int .i64 (j : Nat) ∧ j ≤ cs.length ∧ Hid (Below w1.heap.size w1 wr)) (fun v _ => cs.length - (intOf v).toNat)
 case atStart => exact ⟨0, rfl, Nat.zero_le _, B0⟩
 case round =>
  clear B0
  obtain ⟨j, rfl, hj, B1⟩ := hrel
  by_cases hlt : j < cs.length
  · obtain ⟨g, rfl⟩ : ∃ g, A = some ⟨g, 0, none⟩ := by
     rcases OW.out.2 with ⟨_, h0⟩ | ⟨g, cap, cur, h0, _⟩
     · omega
     · injection h0 with h0; exact ⟨g, h0⟩
    have hx : cs[j] ∈ cs := List.getElem_mem hlt
    have hbits := (HS.out _ hx).1
    have hat := (HS.out _ hx).2
    have own := own_below OW.out B1.out
    have pc := fun r (hr : r < 4) (u : Value) (hu : (cs[j].cells)[r]? = some u) => own_at own (j * 4 + r) u ((flatC_at hlt r hr).trans hu)
    have c0 := pc 0 (by omega) _ rfl
    have c1 := pc 1 (by omega) _ rfl
    have c2 := pc 2 (by omega) _ rfl
    have c3 := pc 3 (by omega) _ rfl
    rw [Nat.add_zero] at c0
    have lg := own_lt own g rfl
    obtain ⟨U1, hU1⟩ : ∃ U, U = str cs[j].key := ⟨_, rfl⟩
    obtain ⟨U2, hU2⟩ : ∃ U, U = str cs[j].val := ⟨_, rfl⟩
    obtain ⟨xb, hxb⟩ : ∃ b : Int, b = cs[j].blob := ⟨_, rfl⟩
    obtain ⟨xz, hxz⟩ : ∃ b : Int, b = cs[j].size := ⟨_, rfl⟩
    rw [← hU1] at hbits c0
    rw [← hU2] at c1
    rw [← hxb] at c2
    rw [← hxz] at c3
    generalize bitsF cs[j].key D = bk at hbits hat
    have hjI : (j : Int) < (cs.length : Int) := by omega
    have i1 : IntKind.i64.wrap ((j : Int) + 1) = (j : Int) + 1 := IntWalk.i64_in _ (by omega)
    have BW := Lib.hid (below_base BB.out BB.out.size B1.out)
    have B5 := Lib.hid (below_al BW.out (celO U1 U2 xb xz))
    have B6 := Lib.hid (below_al B1.out (celO U1 U2 xb xz))
    have PX := Lib.hid (heap_alloc_new wr (celO U1 U2 xb xz))
    have HT5 := Lib.hid (blk_keep HT.out B5.out)
    clear hU1 hU2 hxb hxz pc own hx
    go_wp2_with fail
    refine wp_region_held_drew (S := (Bz (wr.alloc (celO U1 U2 xb xz)))) (by kernel_rfl) (below_dr (Below.refl _ _)) (fun hHeld => ?_)
    refine Ra.W 0 ?_ ?_ hHeld ?_
    rotate_left
    · intro wq hSw
      go_simp
      try with_reducible rfl
    try simp only [Act.put, List.getElem_toArray, List.getElem_cons_succ, List.getElem_cons_zero, List.setIfInBounds_toArray, List.set_cons_zero, List.set_cons_succ]
    refine Ra.W 1 ?_ ?_ hHeld ?_
    rotate_left
    · intro wq hSw
      go_simp
      try with_reducible rfl
    try simp only [Act.put, List.getElem_toArray, List.getElem_cons_succ, List.getElem_cons_zero, List.setIfInBounds_toArray, List.set_cons_zero, List.set_cons_succ]
    refine Ra.W 2 ?_ ?_ hHeld ?_
    rotate_left
    · intro wq hSw
      go_simp
      try with_reducible rfl
    try simp only [Act.put, List.getElem_toArray, List.getElem_cons_succ, List.getElem_cons_zero, List.setIfInBounds_toArray, List.set_cons_zero, List.set_cons_succ]
    refine Ra.W 3 ?_ ?_ hHeld ?_
    rotate_left
    · intro wq hSw
      have hSc := blk_cell (blk_keep HT5.out hSw); have hSl := lt_of_block (blk_keep HT5.out hSw); have hSd := blk_cell (blk_keep PX.out hSw); have hSe := lt_of_block (blk_keep PX.out hSw)
      go_simp
      try with_reducible rfl
    try simp only [Act.put, List.getElem_toArray, List.getElem_cons_succ, List.getElem_cons_zero, List.setIfInBounds_toArray, List.set_cons_zero, List.set_cons_succ]
    refine Ra.W 4 ?_ ?_ hHeld ?_
    rotate_left
    · intro wq hSw
      go_simp
      try with_reducible rfl
    try simp only [Act.put, List.getElem_toArray, List.getElem_cons_succ, List.getElem_cons_zero, List.setIfInBounds_toArray, List.set_cons_zero, List.set_cons_succ]
    refine Ra.W 5 ?_ ?_ hHeld ?_
    rotate_left
    · intro wq hSw
      have hSc := blk_cell (blk_keep HT5.out hSw); have hSl := lt_of_block (blk_keep HT5.out hSw); have hSd := blk_cell (blk_keep PX.out hSw); have hSe := lt_of_block (blk_keep PX.out hSw)
      go_simp
      try with_reducible rfl
    try simp only [Act.put, List.getElem_toArray, List.getElem_cons_succ, List.getElem_cons_zero, List.setIfInBounds_toArray, List.set_cons_zero, List.set_cons_succ]
    refine Ra.W 6 ?_ ?_ hHeld ?_
    rotate_left
    · intro wq hSw
      go_simp
      try with_reducible rfl
    try simp only [Act.put, List.getElem_toArray, List.getElem_cons_succ, List.getElem_cons_zero, List.setIfInBounds_toArray, List.set_cons_zero, List.set_cons_succ]
    refine Ra.W 7 ?_ ?_ hHeld ?_
    rotate_left
    · intro wq hSw
      go_simp
      try with_reducible rfl
    try simp only [Act.put, List.getElem_toArray, List.getElem_cons_succ, List.getElem_cons_zero, List.setIfInBounds_toArray, List.set_cons_zero, List.set_cons_succ]
    refine Ra.W 8 ?_ ?_ hHeld ?_
    rotate_left
    · intro wq hSw
      go_simp
      try with_reducible rfl
    try simp only [Act.put, List.getElem_toArray, List.getElem_cons_succ, List.getElem_cons_zero, List.setIfInBounds_toArray, List.set_cons_zero, List.set_cons_succ]
    refine Ra.W 9 ?_ ?_ hHeld ?_
    rotate_left
    · intro wq hSw
      go_simp
      try with_reducible rfl
    try simp only [Act.put, List.getElem_toArray, List.getElem_cons_succ, List.getElem_cons_zero, List.setIfInBounds_toArray, List.set_cons_zero, List.set_cons_succ]
    refine Ra.W 10 ?_ ?_ hHeld ?_
    rotate_left
    · intro wq hSw
      have hSc := blk_cell (blk_keep HT5.out hSw); have hSl := lt_of_block (blk_keep HT5.out hSw); have hSd := blk_cell (blk_keep PX.out hSw); have hSe := lt_of_block (blk_keep PX.out hSw)
      go_simp
      try with_reducible rfl
    try simp only [Act.put, List.getElem_toArray, List.getElem_cons_succ, List.getElem_cons_zero, List.setIfInBounds_toArray, List.set_cons_zero, List.set_cons_succ]
    refine wpAnyH_ready (rs := [11]) (by kernel_rfl) (by simp) ?_
    refine AllReadyH.cons rfl (fun K hK => ?_) AllReadyH.nil
    rw [if_pos (by kernel_rfl)]
    go_simp
    (with_reducible refine (hbits _).mono ?_)
    rintro e w6 ⟨rfl, hb6⟩
    go_simp
    refine hK.out _ _ (below_tr hHeld hb6) (fun hHeld2 => ?_)
    clear hK K
    try clear hHeld
    have hHeld := hHeld2
    try clear hHeld2
    refine wpAnyH_ready (rs := [12]) (by kernel_rfl) (by simp) ?_
    refine AllReadyH.cons rfl (fun K hK => ?_) AllReadyH.nil
    rw [if_pos (by kernel_rfl)]
    go_simp
    (with_reducible refine (hat _).mono ?_)
    rintro e w7 ⟨rfl, hb7⟩
    go_simp
    refine hK.out _ _ (below_tr hHeld hb7) (fun hHeld2 => ?_)
    clear hK K
    try clear hHeld
    have hHeld := hHeld2
    try clear hHeld2
    refine Ra.W 13 ?_ ?_ hHeld ?_
    rotate_left
    · intro wq hSw
      go_simp
      try with_reducible rfl
    try simp only [Act.put, List.getElem_toArray, List.getElem_cons_succ, List.getElem_cons_zero, List.setIfInBounds_toArray, List.set_cons_zero, List.set_cons_succ]
    refine Ra.W 14 ?_ ?_ hHeld ?_
    rotate_left
    · intro wq hSw
      go_simp
      try with_reducible rfl
    try simp only [Act.put, List.getElem_toArray, List.getElem_cons_succ, List.getElem_cons_zero, List.setIfInBounds_toArray, List.set_cons_zero, List.set_cons_succ]
    refine Ra.W 15 ?_ ?_ hHeld ?_
    rotate_left
    · intro wq hSw
      go_simp
      try with_reducible rfl
    try simp only [Act.put, List.getElem_toArray, List.getElem_cons_succ, List.getElem_cons_zero, List.setIfInBounds_toArray, List.set_cons_zero, List.set_cons_succ]
    refine Ra.W 16 ?_ ?_ hHeld ?_
    rotate_left
    · intro wq hSw
      go_simp
      try with_reducible rfl
    try simp only [Act.put, List.getElem_toArray, List.getElem_cons_succ, List.getElem_cons_zero, List.setIfInBounds_toArray, List.set_cons_zero, List.set_cons_succ]
    refine Ra.W 17 ?_ ?_ hHeld ?_
    rotate_left
    · intro wq hSw
      go_simp
      try with_reducible rfl
    try simp only [Act.put, List.getElem_toArray, List.getElem_cons_succ, List.getElem_cons_zero, List.setIfInBounds_toArray, List.set_cons_zero, List.set_cons_succ]
    refine wpAnyH_done (by kernel_rfl) ?_ _
    have B7 := Lib.hid (below_base B5.out B5.out.size hHeld)
    have B8 := Lib.hid (below_base B6.out B6.out.size hHeld)
    have f7 := HF.out.below B7.out
    have cc := blk_cell f7.blk
    have lc := lt_of_block f7.blk
    have cn0 := (B7.out.cell (p := ⟨nb, 0, none⟩) hnl).trans HN.out
    have ln := f7.nl
    clear hHeld f7 hbits hat c0 c1 c2 c3 hb6 hb7
    go_wp2_with fail
    refine ⟨⟨j + 1, by simp, by omega, B8⟩, ?_⟩
    clear i1
    simp [intOf]; omega
  · obtain rfl : j = cs.length := by omega
    have BF := Lib.hid (below_base BB.out BB.out.size B1.out)
    go_wp2_with fail
    go_ret
    exact ⟨rfl, BF.out⟩
end Go.Proofs.YtijhamllnnilbaaGreatDoor.Ha
namespace Go.Proofs.YtijhamllnnilbaaGreatDoor.Ha
open Go.RowKit Go.Proofs.YtijhamllnnilbaaGreatDoor.Mem Go.Proofs.YtijhamllnnilbaaGreatDoor.Pg Go.Proofs.YtijhamllnnilbaaGreatDoor.Gr
set_option linter.unusedVariables false
set_option linter.unusedSimpArgs false
def fstT (t : Tri) : Nat → List Nat
 | 0 => []
 | j + 1 => if (t.at' j).n ∈ (fstT t j).map (fun i => (t.at' i).n) then fstT t j else fstT t j ++ [j]
theorem fstT_all (t : Tri) : ∀ j i, i < j → (t.at' i).n ∈ (fstT t j).map (fun i => (t.at' i).n)
 | 0, i, h => by omega
 | j + 1, i, h => by
  unfold fstT
  by_cases e : i = j
  · subst e
    split
    · assumption
    · rw [List.map_append]; exact List.mem_append_right _ (by simp)
  · have := fstT_all t j i (by omega)
    split
    · exact this
    · rw [List.map_append]; exact List.mem_append_left _ this
theorem fstT_nodup (t : Tri) : ∀ j, ((fstT t j).map (fun i => (t.at' i).n)).Nodup
 | 0 => List.nodup_nil
 | j + 1 => by
  unfold fstT
  split
  · exact fstT_nodup t j
  · rename_i h
    rw [List.map_append, List.nodup_append]
    refine ⟨fstT_nodup t j, by simp, fun a ha b hb e => ?_⟩
    simp at hb
    subst hb
    exact h (e ▸ ha)
theorem fstT_len (t : Tri) : ∀ j, (fstT t j).length ≤ j
 | 0 => Nat.le_refl _
 | j + 1 => by
  have := fstT_len t j
  unfold fstT
  split
  · omega
  · rw [List.length_append]; simp; omega
variable {n D : Nat} {pg : Nat → Pag} {t : Tri}
theorem leaves_nodup (T : Tb n pg D t) : t.leaves.Nodup := List.Pairwise.of_map Lf.n (fun a b h e => h (by rw [e])) (numsF_n _ T.nums)
theorem fstT_perm (T : Tb n pg D t) : ((fstT t (2 ^ D)).map (fun i => t.at' i)).Perm t.leaves := by
 have hnd : ((fstT t (2 ^ D)).map (fun i => t.at' i)).Nodup := by
  have h := fstT_nodup t (2 ^ D)
  have e : (fstT t (2 ^ D)).map (fun i => (t.at' i).n) = ((fstT t (2 ^ D)).map (fun i => t.at' i)).map Lf.n := by rw [List.map_map]; rfl
  rw [e] at h
  exact List.Pairwise.of_map Lf.n (fun a b h e => h (by rw [e])) h
 refine (List.perm_ext_iff_of_nodup hnd (leaves_nodup T)).2 fun b => ⟨fun hb => ?_, fun hb => ?_⟩
 · obtain ⟨i, _, rfl⟩ := List.mem_map.1 hb
   exact t.at_mem i
 · obtain ⟨i, hi, rfl⟩ := t.mem_at b hb
   have hlt : i < 2 ^ D := Nat.lt_of_lt_of_le hi (Nat.pow_le_pow_right (by omega) T.hi)
   obtain ⟨k, hk, e⟩ := List.mem_map.1 (fstT_all t (2 ^ D) i hlt)
   exact List.mem_map.2 ⟨k, hk, (T.inj k i e).1⟩
end Go.Proofs.YtijhamllnnilbaaGreatDoor.Ha
namespace Go.Proofs.YtijhamllnnilbaaGreatDoor.Ha
open Go.RowKit Go.Proofs.YtijhamllnnilbaaGreatDoor.Mem Go.Proofs.YtijhamllnnilbaaGreatDoor.Pg Go.Proofs.YtijhamllnnilbaaGreatDoor.Kp Go.Proofs.YtijhamllnnilbaaGreatDoor.Sp Go.Proofs.YtijhamllnnilbaaGreatDoor.Gr
set_option linter.unusedVariables false
set_option linter.unusedSimpArgs false
def cellsT (t : Tri) : List Cel := t.leaves.flatMap Lf.cells
theorem look_mem {n D : Nat} {pg : Nat → Pag} {t : Tri} (T : Tb n pg D t) {b : Lf} (hb : b ∈ t.leaves) {c : Cel} (hc : c ∈ b.cells) : lookT t c.key = some c := by
 unfold lookT
 rw [T.lead b hb c hc]
 exact lookF_yes (T.keys b hb) hc rfl
theorem cel_ok {n D : Nat} {pg : Nat → Pag} {t : Tri} (T : Tb n pg D t) {b : Lf} (hb : b ∈ t.leaves) {c : Cel} (hc : c ∈ b.cells) : c.ok := by
 obtain ⟨p, hp, hcp⟩ := List.mem_flatMap.1 hc
 exact (T.fits b hb p hp).ok c hcp
def blobsB (pl : Cel → List Nat) (b : Lf) : List Nat := b.cells.flatMap pl
def visF (pl : Cel → List Nat) (b : Lf) : List Nat := b.nums ++ blobsB pl b
theorem flat_perm {α β : Type} (f g : α → List β) : ∀ l : List α, (l.flatMap (fun a => f a ++ g a)).Perm (l.flatMap f ++ l.flatMap g)
 | [] => List.Perm.refl _
 | a :: l => by
  simp only [List.flatMap_cons]
  have h1 := (flat_perm f g l).append_left (f a ++ g a)
  refine h1.trans ?_
  rw [List.append_assoc, List.append_assoc]
  refine List.Perm.append_left _ ?_
  rw [← List.append_assoc, ← List.append_assoc]
  exact List.perm_append_comm.append_right _
theorem perm_flat {α β : Type} (f : α → List β) {l m : List α} (h : l.Perm m) : (l.flatMap f).Perm (m.flatMap f) := h.flatMap_right f
variable {n D : Nat} {pg : Nat → Pag} {t : Tri} {ml : List UInt8} {X : List Nat}
theorem blobs_flat (pl : Cel → List Nat) (t : Tri) : (cellsT t).flatMap pl = t.leaves.flatMap (blobsB pl) := by
 unfold cellsT blobsB
 rw [List.flatMap_assoc]
theorem vis_perm (T : Tb n pg D t) (pl : Cel → List Nat) : ((fstT t (2 ^ D)).flatMap (fun i => visF pl (t.at' i))).Perm (numsF t.leaves ++ (cellsT t).flatMap pl) := by
 have h1 := perm_flat (visF pl) (fstT_perm T)
 rw [List.flatMap_map] at h1
 refine h1.trans ?_
 rw [blobs_flat]
 exact flat_perm Lf.nums (blobsB pl) t.leaves
def visAll (pl : Cel → List Nat) (D : Nat) (t : Tri) (E : List Nat) : List Nat := [0, 1] ++ E ++ (fstT t (2 ^ D)).flatMap (fun i => visF pl (t.at' i))
theorem all_perm (H : Hs n pg D t ml X) (pl : Cel → List Nat) {E R : List Nat} (hX : X.Perm ((cellsT t).flatMap pl ++ E ++ R)) : (visAll pl D t E ++ R).Perm ([0, 1] ++ (numsF t.leaves ++ X)) := by
 unfold visAll
 rw [List.append_assoc, List.append_assoc]
 refine List.Perm.append_left _ ?_
 have h1 := vis_perm H.tb pl
 have h2 : (numsF t.leaves ++ X).Perm (numsF t.leaves ++ ((cellsT t).flatMap pl ++ E ++ R)) := hX.append_left _
 refine List.Perm.trans ?_ h2.symm
 have h3 : (E ++ ((fstT t (2 ^ D)).flatMap (fun i => visF pl (t.at' i)) ++ R)).Perm (E ++ ((numsF t.leaves ++ (cellsT t).flatMap pl) ++ R)) := (h1.append_right R).append_left E
 refine h3.trans ?_
 rw [← List.append_assoc, ← List.append_assoc, ← List.append_assoc]
 refine List.Perm.append_right _ ?_
 rw [List.append_assoc, ← List.append_assoc (numsF t.leaves)]
 exact List.perm_append_comm
theorem all_nodup (H : Hs n pg D t ml X) (pl : Cel → List Nat) {E R : List Nat} (hX : X.Perm ((cellsT t).flatMap pl ++ E ++ R)) : (visAll pl D t E ++ R).Nodup := by
 refine (all_perm H pl hX).nodup_iff.2 ?_
 rw [List.nodup_append, List.nodup_append]
 refine ⟨by simp, ⟨H.tb.nums, H.xn, fun a ha b hb e => H.xd b hb (e ▸ ha)⟩, fun a ha b hb e => ?_⟩
 have h2 : 2 ≤ b := by
  rcases List.mem_append.1 hb with h | h
  · exact (H.tb.rng b h).1
  · exact (H.xr b h).1
 simp at ha
 omega
theorem all_mem (H : Hs n pg D t ml X) (pl : Cel → List Nat) {E R : List Nat} (hX : X.Perm ((cellsT t).flatMap pl ++ E ++ R)) (m : Nat) (hm : m < n) : bt ml m = 1 ↔ m ∈ visAll pl D t E ∨ m ∈ R := by
 rw [← List.mem_append, (all_perm H pl hX).mem_iff]
 by_cases h2 : 2 ≤ m
 · rw [H.used m h2 hm]
   simp only [List.mem_append, List.mem_cons, List.not_mem_nil, or_false]
   constructor
   · exact fun h => .inr h
   · rintro (h | h)
     · omega
     · exact h
 · rcases (show m = 0 ∨ m = 1 by omega) with rfl | rfl
   · exact ⟨fun _ => by simp, fun _ => H.is.b0⟩
   · exact ⟨fun _ => by simp, fun _ => H.is.b1⟩
theorem all_lt (H : Hs n pg D t ml X) (pl : Cel → List Nat) {E R : List Nat} (hX : X.Perm ((cellsT t).flatMap pl ++ E ++ R)) (m : Nat) (hm : m ∈ visAll pl D t E ++ R) : m < n := by
 have h8 := H.is.ge
 rw [(all_perm H pl hX).mem_iff] at hm
 simp only [List.mem_append, List.mem_cons, List.not_mem_nil, or_false] at hm
 rcases hm with h | h | h
 · omega
 · exact (H.tb.rng m h).2
 · exact (H.xr m h).2
def fromJ (V : List Nat) (j : Nat) : List Nat := V.filter (fun m => decide (j ≤ m))
theorem fromJ_zero (V : List Nat) : fromJ V 0 = V := by unfold fromJ; rw [List.filter_eq_self]; intro a _; simp
theorem fromJ_end {V : List Nat} {n : Nat} (h : ∀ m, m ∈ V → m < n) : fromJ V n = [] := by
 unfold fromJ
 rw [List.filter_eq_nil_iff]
 intro a ha
 have := h a ha
 simp
 omega
theorem fromJ_mem {V : List Nat} {j m : Nat} : m ∈ fromJ V j ↔ m ∈ V ∧ j ≤ m := by unfold fromJ; rw [List.mem_filter]; simp
theorem fromJ_step {V : List Nat} (hn : V.Nodup) (j : Nat) : (fun i : Int => !(i == (j : Int)) && decide (i ∈ toI (fromJ V j))) = (fun i => decide (i ∈ toI (fromJ V (j + 1)))) ∧ (if decide ((j : Int) ∈ toI (fromJ V j)) = true then (fromJ V j).length - 1 else (fromJ V j).length) = (fromJ V (j + 1)).length := by
 constructor
 · funext i
   by_cases h0 : 0 ≤ i
   · obtain ⟨a, rfl⟩ : ∃ a : Nat, i = a := ⟨i.toNat, by omega⟩
     rw [Bool.eq_iff_iff]
     simp only [Bool.and_eq_true, Bool.not_eq_true', beq_eq_false_iff_ne, decide_eq_true_eq, toI_mem, fromJ_mem]
     constructor
     · rintro ⟨h1, h2, h3⟩; exact ⟨h2, by omega⟩
     · rintro ⟨h1, h2⟩; exact ⟨by omega, h1, by omega⟩
   · have : ∀ V : List Nat, ¬ i ∈ toI V := fun V h => by
      obtain ⟨a, _, e⟩ := List.mem_map.1 h
      omega
     simp [this]
 · have key : fromJ V (j + 1) = (fromJ V j).filter (fun m => !(m == j)) := by
    unfold fromJ
    rw [List.filter_filter]
    congr 1
    funext m
    rw [Bool.eq_iff_iff]
    simp
    omega
   have hnd : (fromJ V j).Nodup := hn.filter _
   rw [key]
   by_cases h : j ∈ fromJ V j
   · rw [if_pos (by rw [decide_eq_true_eq, toI_mem]; exact h)]
     have e : (fromJ V j).filter (fun m => !(m == j)) = (fromJ V j).erase j := by rw [hnd.erase_eq_filter]; rfl
     rw [e, List.length_erase_of_mem h]
   · rw [if_neg (by rw [decide_eq_true_eq, toI_mem]; exact h)]
     congr 1
     symm
     rw [List.filter_eq_self]
     intro a ha
     have : a ≠ j := fun e => h (e ▸ ha)
     simpa using this
end Go.Proofs.YtijhamllnnilbaaGreatDoor.Ha
