/- Lemmas of the claim, in their order:
- Cells by their keys: where a key is, a cell more, a cell less. No program in sight.
- The table as a trie: buckets by the bits of their keys' hashes. No program in sight.
- copy(d, s) at elements of k cells, onto a block that is all there. No program in sight.
- Chapter 10 in plain Lean: the entries of a directory page. No program in sight.
- The contract of dir's may.
-/
import Derived.Test.YtijhamllnnilbaaGreatDoorR02
import Derived.Test.YtijhamllnnilbaaGreatDoorR01
import Derived.Laws.CopyRow
set_option linter.unusedVariables false
set_option linter.unusedSimpArgs false
namespace Go.Proofs.YtijhamllnnilbaaGreatDoor.Ha
open Go.RowKit Go.Proofs.YtijhamllnnilbaaGreatDoor.Mem Go.Proofs.YtijhamllnnilbaaGreatDoor.Pg Go.Proofs.YtijhamllnnilbaaGreatDoor.Gr
set_option linter.unusedVariables false
set_option linter.unusedSimpArgs false

def Sorted (l : List Cel) : Prop := l.Pairwise (fun a b => a.key < b.key)
def pos (k : List UInt8) (l : List Cel) : Nat := l.countP (fun c => decide (c.key < k))
def has (k : List UInt8) (l : List Cel) : Prop := ∃ c, c ∈ l ∧ c.key = k
def ins (c : Cel) : List Cel → List Cel
 | [] => [c]
 | a :: l => if a.key < c.key then a :: ins c l else if a.key = c.key then c :: l else c :: a :: l
def cutK (k : List UInt8) (l : List Cel) : List Cel := l.filter (fun c => decide (c.key ≠ k))
theorem pos_le (k : List UInt8) (l : List Cel) : pos k l ≤ l.length := List.countP_le_length
theorem pos_cons_lt {k : List UInt8} {a : Cel} {l : List Cel} (h : a.key < k) : pos k (a :: l) = pos k l + 1 := by
 unfold pos; rw [List.countP_cons_of_pos (by simpa using h)]
theorem Sorted.tail {a : Cel} {l : List Cel} (h : Sorted (a :: l)) : Sorted l := (List.pairwise_cons.1 h).2
theorem Sorted.head {a : Cel} {l : List Cel} (h : Sorted (a :: l)) : ∀ c, c ∈ l → a.key < c.key := (List.pairwise_cons.1 h).1
theorem pos_cons_ge {k : List UInt8} {a : Cel} {l : List Cel} (hs : Sorted (a :: l)) (h : ¬ a.key < k) : pos k (a :: l) = 0 := by
 unfold pos
 rw [List.countP_eq_zero]
 intro c hc
 rw [decide_eq_true_eq]
 intro hck
 rcases List.mem_cons.1 hc with e | e
 · subst e; exact h hck
 · exact h (list_lt_trans (hs.head c e) hck)
theorem pos_lt {k : List UInt8} : ∀ {l : List Cel}, Sorted l → ∀ i (h : i < l.length), l[i].key < k ↔ i < pos k l
 | [], _, i, h => by simp at h
 | a :: l, hs, i, h => by
  by_cases ha : a.key < k
  · rw [pos_cons_lt ha]
    rcases i with _ | i
    · simp [ha]
    · simpa using pos_lt hs.tail i (by simpa using h)
  · rw [pos_cons_ge hs ha]
    constructor
    · intro hk
      exfalso
      rcases i with _ | i
      · exact ha hk
      · exact ha (list_lt_trans (hs.head _ (List.getElem_mem (by simpa using h))) hk)
    · intro h; omega
theorem has_iff {k : List UInt8} : ∀ {l : List Cel}, Sorted l → (has k l ↔ ∃ h : pos k l < l.length, (l[pos k l]).key = k)
 | [], _ => by simp [has]
 | a :: l, hs => by
  by_cases ha : a.key < k
  · have h1 := pos_cons_lt (l := l) ha
    have ih := has_iff (k := k) hs.tail
    have hne : a.key ≠ k := fun e => by rw [e] at ha; exact list_lt_irrefl _ ha
    have h2 : has k (a :: l) ↔ has k l := by
     constructor
     · rintro ⟨c, hc, e⟩
       rcases List.mem_cons.1 hc with h | h
       · subst h; exact absurd e hne
       · exact ⟨c, h, e⟩
     · rintro ⟨c, hc, e⟩
       exact ⟨c, List.mem_cons_of_mem _ hc, e⟩
    rw [h2, ih]
    constructor
    · rintro ⟨h, e⟩
      refine ⟨by rw [h1]; simpa using h, ?_⟩
      simp only [h1, List.getElem_cons_succ]
      exact e
    · rintro ⟨h, e⟩
      refine ⟨by rw [h1] at h; simpa using h, ?_⟩
      simp only [h1, List.getElem_cons_succ] at e
      exact e
  · have h1 := pos_cons_ge hs ha
    constructor
    · rintro ⟨c, hc, e⟩
      refine ⟨by rw [h1]; simp, ?_⟩
      simp only [h1, List.getElem_cons_zero]
      rcases List.mem_cons.1 hc with h | h
      · subst h; exact e
      · exact absurd (by rw [← e]; exact hs.head c h) ha
    · rintro ⟨h, e⟩
      simp only [h1, List.getElem_cons_zero] at e
      exact ⟨a, List.mem_cons_self .., e⟩
theorem ins_has {c : Cel} : ∀ {l : List Cel}, Sorted l → has c.key l → ins c l = l.set (pos c.key l) c
 | [], _, h => by obtain ⟨_, h, _⟩ := h; cases h
 | a :: l, hs, h => by
  unfold ins
  by_cases ha : a.key < c.key
  · have hne : a.key ≠ c.key := fun e => by rw [e] at ha; exact list_lt_irrefl _ ha
    have h2 : has c.key l := by
     obtain ⟨x, hx, e⟩ := h
     rcases List.mem_cons.1 hx with h | h
     · subst h; exact absurd e hne
     · exact ⟨x, h, e⟩
    rw [if_pos ha, pos_cons_lt ha, List.set_cons_succ, ins_has hs.tail h2]
  · rw [if_neg ha, pos_cons_ge hs ha, List.set_cons_zero, if_pos]
    obtain ⟨x, hx, e⟩ := h
    rcases List.mem_cons.1 hx with h | h
    · subst h; exact e
    · exact absurd (by rw [← e]; exact hs.head x h) ha
theorem ins_new {c : Cel} : ∀ {l : List Cel}, Sorted l → ¬ has c.key l → ins c l = l.take (pos c.key l) ++ c :: l.drop (pos c.key l)
 | [], _, h => rfl
 | a :: l, hs, h => by
  unfold ins
  have hne : a.key ≠ c.key := fun e => h ⟨a, List.mem_cons_self .., e⟩
  by_cases ha : a.key < c.key
  · rw [if_pos ha, pos_cons_lt ha, ins_new hs.tail (fun ⟨x, hx, e⟩ => h ⟨x, List.mem_cons_of_mem _ hx, e⟩)]
    rfl
  · rw [if_neg ha, if_neg hne, pos_cons_ge hs ha]
    rfl
theorem mem_ins {c x : Cel} : ∀ {l : List Cel}, Sorted l → (x ∈ ins c l ↔ x = c ∨ (x ∈ l ∧ x.key ≠ c.key))
 | [], _ => by simp [ins]
 | a :: l, hs => by
  unfold ins
  by_cases ha : a.key < c.key
  · have hne : a.key ≠ c.key := fun e => by rw [e] at ha; exact list_lt_irrefl _ ha
    rw [if_pos ha, List.mem_cons, mem_ins hs.tail, List.mem_cons]
    constructor
    · rintro (rfl | h | h)
      · exact .inr ⟨.inl rfl, hne⟩
      · exact .inl h
      · exact .inr ⟨.inr h.1, h.2⟩
    · rintro (h | ⟨rfl | h, h2⟩)
      · exact .inr (.inl h)
      · exact .inl rfl
      · exact .inr (.inr ⟨h, h2⟩)
  · rw [if_neg ha]
    have hgt : ∀ y, y ∈ l → y.key ≠ c.key := fun y hy e => ha (by rw [← e]; exact hs.head y hy)
    by_cases he : a.key = c.key
    · rw [if_pos he, List.mem_cons, List.mem_cons]
      constructor
      · rintro (h | h)
        · exact .inl h
        · exact .inr ⟨.inr h, hgt x h⟩
      · rintro (h | ⟨rfl | h, h2⟩)
        · exact .inl h
        · exact absurd he h2
        · exact .inr h
    · rw [if_neg he, List.mem_cons, List.mem_cons]
      constructor
      · rintro (h | rfl | h)
        · exact .inl h
        · exact .inr ⟨.inl rfl, he⟩
        · exact .inr ⟨.inr h, hgt x h⟩
      · rintro (h | ⟨h, h2⟩)
        · exact .inl h
        · exact .inr h
theorem Sorted.ins {c : Cel} : ∀ {l : List Cel}, Sorted l → Sorted (ins c l)
 | [], _ => List.pairwise_singleton _ _
 | a :: l, hs => by
  unfold Ha.ins
  by_cases ha : a.key < c.key
  · rw [if_pos ha]
    refine List.pairwise_cons.2 ⟨fun x hx => ?_, hs.tail.ins⟩
    rcases (mem_ins hs.tail).1 hx with rfl | ⟨h, _⟩
    · exact ha
    · exact hs.head x h
  · rw [if_neg ha]
    by_cases he : a.key = c.key
    · rw [if_pos he]
      exact List.pairwise_cons.2 ⟨fun x hx => by rw [← he]; exact hs.head x hx, hs.tail⟩
    · rw [if_neg he]
      have hca := list_lt_total ha he
      refine List.pairwise_cons.2 ⟨fun x hx => ?_, hs⟩
      rcases List.mem_cons.1 hx with rfl | h
      · exact hca
      · exact list_lt_trans hca (hs.head x h)
theorem cut_has {k : List UInt8} : ∀ {l : List Cel}, Sorted l → has k l → cutK k l = l.eraseIdx (pos k l)
 | [], _, h => by obtain ⟨_, h, _⟩ := h; cases h
 | a :: l, hs, h => by
  unfold cutK
  by_cases ha : a.key < k
  · have hne : a.key ≠ k := fun e => by rw [e] at ha; exact list_lt_irrefl _ ha
    have h2 : has k l := by
     obtain ⟨x, hx, e⟩ := h
     rcases List.mem_cons.1 hx with h | h
     · subst h; exact absurd e hne
     · exact ⟨x, h, e⟩
    rw [List.filter_cons_of_pos (by simpa using hne), pos_cons_lt ha, List.eraseIdx_cons_succ]
    exact congrArg _ (cut_has hs.tail h2)
  · have he : a.key = k := by
     obtain ⟨x, hx, e⟩ := h
     rcases List.mem_cons.1 hx with h | h
     · subst h; exact e
     · exact absurd (by rw [← e]; exact hs.head x h) ha
    rw [List.filter_cons_of_neg (by simpa using he), pos_cons_ge hs ha, List.eraseIdx_cons_zero]
    refine List.filter_eq_self.2 fun x hx => ?_
    have := hs.head x hx
    simp only [ne_eq, decide_eq_true_eq]
    intro e
    rw [he, e] at this
    exact list_lt_irrefl _ this
theorem cut_none {k : List UInt8} {l : List Cel} (h : ¬ has k l) : cutK k l = l :=
 List.filter_eq_self.2 fun x hx => by
  simp only [ne_eq, decide_eq_true_eq]
  exact fun e => h ⟨x, hx, e⟩
theorem Sorted.cut {k : List UInt8} {l : List Cel} (h : Sorted l) : Sorted (cutK k l) := List.Pairwise.filter _ h
theorem mem_cut {k : List UInt8} {l : List Cel} {x : Cel} : x ∈ cutK k l ↔ x ∈ l ∧ x.key ≠ k := by
 unfold cutK
 rw [List.mem_filter]
 simp
theorem szs_cut_le (k : List UInt8) (l : List Cel) : szs (cutK k l) ≤ szs l := by
 induction l with
 | nil => exact Nat.le_refl _
 | cons a l ih =>
  unfold cutK at ih ⊢
  by_cases h : a.key = k
  · rw [List.filter_cons_of_neg (by simpa using h)]
    simp [szs] at ih ⊢; omega
  · rw [List.filter_cons_of_pos (by simpa using h)]
    simp [szs] at ih ⊢; omega
theorem Fits.sorted {l : List Cel} (h : Fits l) : Sorted l := h.lt
theorem Fits.cut {l : List Cel} (h : Fits l) (k : List UInt8) : Fits (cutK k l) :=
 ⟨fun c hc => h.ok c (mem_cut.1 hc).1, h.sorted.cut, Nat.le_trans (szs_cut_le k l) h.room⟩
theorem Fits.ins {l : List Cel} {c : Cel} (h : Fits l) (hc : c.ok) (hr : szs (Ha.ins c l) ≤ 239) : Fits (Ha.ins c l) :=
 ⟨fun x hx => by
  rcases (mem_ins h.sorted).1 hx with rfl | ⟨h1, _⟩
  · exact hc
  · exact h.ok x h1, h.sorted.ins, hr⟩
end Go.Proofs.YtijhamllnnilbaaGreatDoor.Ha
namespace Go.Proofs.YtijhamllnnilbaaGreatDoor.Ha
open Go.RowKit Go.Proofs.YtijhamllnnilbaaGreatDoor.Mem Go.Proofs.YtijhamllnnilbaaGreatDoor.Pg Go.Proofs.YtijhamllnnilbaaGreatDoor.Gr
set_option linter.unusedVariables false
set_option linter.unusedSimpArgs false

structure Lf where
 n : Nat
 cs : List Cel
 ov : List (Nat × List Cel)
def Lf.pgs (b : Lf) : List (Nat × List Cel) := (b.n, b.cs) :: b.ov
def Lf.cells (b : Lf) : List Cel := b.pgs.flatMap (·.2)
def Lf.nums (b : Lf) : List Nat := b.pgs.map (·.1)
inductive Tri where
 | leaf (b : Lf)
 | node (z o : Tri)
namespace Tri
def at' : Tri → Nat → Lf
 | leaf b, _ => b
 | node z o, i => if i % 2 = 0 then z.at' (i / 2) else o.at' (i / 2)
def dep : Tri → Nat → Nat
 | leaf _, _ => 0
 | node z o, i => if i % 2 = 0 then z.dep (i / 2) + 1 else o.dep (i / 2) + 1
def height : Tri → Nat
 | leaf _ => 0
 | node z o => max z.height o.height + 1
def leaves : Tri → List Lf
 | leaf b => [b]
 | node z o => z.leaves ++ o.leaves
theorem dep_le : ∀ (t : Tri) (i : Nat), t.dep i ≤ t.height
 | leaf _, _ => Nat.le_refl _
 | node z o, i => by
  have h1 := z.dep_le (i / 2)
  have h2 := o.dep_le (i / 2)
  unfold dep height
  split <;> omega
theorem half_mod (i D : Nat) : i % 2 ^ (D + 1) % 2 = i % 2 ∧ i % 2 ^ (D + 1) / 2 = i / 2 % 2 ^ D := by
 rw [Nat.pow_succ, Nat.mul_comm]
 constructor
 · exact Nat.mod_mul_right_mod i 2 (2 ^ D)
 · exact Nat.mod_mul_right_div_self i 2 (2 ^ D)
theorem at_mod : ∀ (t : Tri) (i D : Nat), t.dep i ≤ D → t.at' (i % 2 ^ D) = t.at' i ∧ t.dep (i % 2 ^ D) = t.dep i
 | leaf _, _, _, _ => ⟨rfl, rfl⟩
 | node z o, i, D, h => by
  rcases D with _ | D
  · unfold dep at h; split at h <;> omega
  · obtain ⟨h1, h2⟩ := half_mod i D
    unfold at' dep
    rw [h1, h2]
    unfold dep at h
    split
    · rename_i e
      rw [if_pos e] at h
      obtain ⟨a, b⟩ := z.at_mod (i / 2) D (by omega)
      exact ⟨a, by rw [b]⟩
    · rename_i e
      rw [if_neg e] at h
      obtain ⟨a, b⟩ := o.at_mod (i / 2) D (by omega)
      exact ⟨a, by rw [b]⟩
theorem at_mem : ∀ (t : Tri) (i : Nat), t.at' i ∈ t.leaves
 | leaf b, _ => List.mem_singleton.2 rfl
 | node z o, i => by
  unfold at' leaves
  split
  · exact List.mem_append_left _ (z.at_mem _)
  · exact List.mem_append_right _ (o.at_mem _)
theorem mem_at : ∀ (t : Tri) (b : Lf), b ∈ t.leaves → ∃ i, i < 2 ^ t.height ∧ t.at' i = b
 | leaf c, b, h => ⟨0, by simp [height], (List.mem_singleton.1 h).symm⟩
 | node z o, b, h => by
  have h2 : 2 ^ (node z o).height = 2 * 2 ^ max z.height o.height := by (show 2 ^ (max z.height o.height + 1) = _; rw [Nat.pow_succ, Nat.mul_comm])
  rcases List.mem_append.1 h with h | h
  · obtain ⟨i, h3, h4⟩ := z.mem_at b h
    have h5 : 2 ^ z.height ≤ 2 ^ max z.height o.height := Nat.pow_le_pow_right (by omega) (by omega)
    refine ⟨2 * i, by omega, ?_⟩
    unfold at'
    rw [if_pos (by omega), show 2 * i / 2 = i by omega]
    exact h4
  · obtain ⟨i, h3, h4⟩ := o.mem_at b h
    have h5 : 2 ^ o.height ≤ 2 ^ max z.height o.height := Nat.pow_le_pow_right (by omega) (by omega)
    refine ⟨2 * i + 1, by omega, ?_⟩
    unfold at'
    rw [if_neg (by omega), show (2 * i + 1) / 2 = i by omega]
    exact h4
theorem at_inj : ∀ (t : Tri), (t.leaves.map Lf.n).Nodup → ∀ i j, (t.at' i).n = (t.at' j).n → t.at' i = t.at' j ∧ t.dep i = t.dep j ∧ i % 2 ^ t.dep i = j % 2 ^ t.dep i
 | leaf b, _, i, j, _ => ⟨rfl, rfl, by simp [dep, Nat.mod_one]⟩
 | node z o, hn, i, j, h => by
  unfold leaves at hn
  rw [List.map_append, List.nodup_append] at hn
  obtain ⟨h1, h2, h3⟩ := hn
  have cross : ∀ x y, (z.at' x).n ≠ (o.at' y).n := fun x y =>
   h3 _ (List.mem_map_of_mem (z.at_mem x)) _ (List.mem_map_of_mem (o.at_mem y))
  have step : ∀ d : Nat, i % 2 = j % 2 → i / 2 % 2 ^ d = j / 2 % 2 ^ d → i % 2 ^ (d + 1) = j % 2 ^ (d + 1) := fun d e1 e2 => by
   obtain ⟨a1, a2⟩ := half_mod i d
   obtain ⟨b1, b2⟩ := half_mod j d
   have := Nat.div_add_mod (i % 2 ^ (d + 1)) 2
   have := Nat.div_add_mod (j % 2 ^ (d + 1)) 2
   omega
  unfold at' at h ⊢
  unfold dep
  by_cases hi : i % 2 = 0
  · by_cases hj : j % 2 = 0
    · rw [if_pos hi, if_pos hj] at h ⊢
      rw [if_pos hi, if_pos hj]
      obtain ⟨a, b, c⟩ := z.at_inj h1 _ _ h
      exact ⟨a, by rw [b], step _ (by omega) c⟩
    · rw [if_pos hi, if_neg hj] at h
      exact absurd h (cross _ _)
  · by_cases hj : j % 2 = 0
    · rw [if_neg hi, if_pos hj] at h
      exact absurd h.symm (cross _ _)
    · rw [if_neg hi, if_neg hj] at h ⊢
      rw [if_neg hi, if_neg hj]
      obtain ⟨a, b, c⟩ := o.at_inj h2 _ _ h
      exact ⟨a, by rw [b], step _ (by omega) c⟩
end Tri
end Go.Proofs.YtijhamllnnilbaaGreatDoor.Ha
namespace Go.Proofs.YtijhamllnnilbaaGreatDoor.Ha
open Go.RowKit Go.Proofs.YtijhamllnnilbaaGreatDoor.Mem
theorem run_copy_k {P : Program} (k : Nat) (w : World) (dT sT ty elem : TypeId) (g o dLen dCap : Nat) (a : Addr) (sLen sCap : Nat) (cur : Array Value) (t : TypeId) (cs : List Value)
 (hu : P.underlying dT = some (.slice elem)) (hs : (P.info? elem).map (·.size) = some k)
 (hg : w.heap[g]? = some (.cells cur t (0, 0))) (hn : cs.length = Nat.min sLen dLen * k)
 (hsrc : ∀ j v, cs[j]? = some v → w.cell? (a.add j) = some v) (hfit : o + cs.length ≤ cur.size) (h1 : ∀ v ∈ cs, v.oneCell' = true) :
 (Builtin.copy_ #[dT, sT] ty #[.slice (some ⟨g, o, none⟩) dLen dCap, .slice (some a) sLen sCap]).run P w =
  .ok (goInt (Nat.min sLen dLen)) (w.setRow g (cur.toList.take o ++ cs ++ cur.toList.drop (o + cs.length)).toArray) := by
 have hl := run_loadCells_list (P := P) w a cs hsrc
 have hst := run_storeCells_at P g o t cs 0 cur w hg (by simpa using hfit) h1
 cases hq : P.info? elem with
 | none => simp [hq] at hs
 | some i =>
  have hi : i.size = k := by simpa [hq] using hs
  simp [Builtin.copy_, run_underlying hu, Builtin.lenOf, Builtin.firstCells, sizeOf, typeInfo, hq, hi, ← hn, hl, hst]
end Go.Proofs.YtijhamllnnilbaaGreatDoor.Ha
namespace Go.Proofs.YtijhamllnnilbaaGreatDoor.Dr
open Go.Proofs.YtijhamllnnilbaaGreatDoor.Pg

def bt (l : List UInt8) (i : Nat) : Int := (l.getD i 0).toNat
def ent (l : List UInt8) (i : Nat) : Int := bt l (2 * i) * 256 + bt l (2 * i + 1)
def ents (l : List UInt8) (n : Nat) : List Int := (List.range n).map fun i => ent l i
theorem ents_len (l : List UInt8) (n : Nat) : (ents l n).length = n := by simp [ents]
theorem ents_succ (l : List UInt8) (n : Nat) : ents l (n + 1) = ents l n ++ [ent l n] := by simp [ents, List.range_succ]
def mayP (x : Int) : Prop := 2 ≤ x ∧ x < 64
instance (x : Int) : Decidable (mayP x) := inferInstanceAs (Decidable (_ ∧ _))
def mayB (x : Int) : Bool := decide (mayP x)
theorem bt_range (l : List UInt8) (i : Nat) : 0 ≤ bt l i ∧ bt l i ≤ 255 := by
 have := (l.getD i 0).toNat_lt
 unfold bt
 omega
structure IsDir (k d : Int) (l : List UInt8) (n : Nat) : Prop where
 kind : k = 1
 lo : 0 ≤ d
 hi : d ≤ 5
 len : l.length = 240
 size : n = 2 ^ d.toNat
 may : ∀ i, i < n → mayP (ent l i)
 rest : ∀ c ∈ l.drop (2 * n), c = 0
theorem IsDir.le {k d : Int} {l : List UInt8} {n : Nat} (h : IsDir k d l n) : 1 ≤ n ∧ n ≤ 32 := by
 have h1 := h.lo
 have h2 := h.hi
 have h3 := h.size
 obtain ⟨m, rfl⟩ := Int.eq_ofNat_of_zero_le h1
 have : m ≤ 5 := by omega
 match m, this with
 | 0, _ | 1, _ | 2, _ | 3, _ | 4, _ | 5, _ => simp at h3; omega
end Go.Proofs.YtijhamllnnilbaaGreatDoor.Dr
namespace Go.Proofs.YtijhamllnnilbaaGreatDoor.Dr
open Go.RowKit Go.Proofs.YtijhamllnnilbaaGreatDoor.Mem Go.Proofs.YtijhamllnnilbaaGreatDoor.Pg

theorem may_any (x : Int) (w : World) : Calls Tryz.prog 163 #[.int .i64 x] w fun e w' => e = .returned (.bool (mayB x)) ∧ w' = w := by
 by_cases h1 : 2 ≤ x
 · by_cases h2 : x < 64
   · have hb : mayB x = true := decide_eq_true ⟨h1, h2⟩
     go_enter Tryz.func163, Tryz.ntmps163
     go_wp2
     go_ret
     exact ⟨by first | rfl | (rw [hb]; rfl), rfl⟩
   · have hb : mayB x = false := decide_eq_false (fun h => h2 h.2)
     go_enter Tryz.func163, Tryz.ntmps163
     go_wp2
     go_ret
     exact ⟨by first | rfl | (rw [hb]; rfl), rfl⟩
 · have hb : mayB x = false := decide_eq_false (fun h => h1 h.1)
   go_enter Tryz.func163, Tryz.ntmps163
   go_wp2
   go_ret
   exact ⟨by first | rfl | (rw [hb]; rfl), rfl⟩
end Go.Proofs.YtijhamllnnilbaaGreatDoor.Dr
