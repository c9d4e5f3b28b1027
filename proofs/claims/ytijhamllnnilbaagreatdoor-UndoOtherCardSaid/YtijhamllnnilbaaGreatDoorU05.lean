/- Lemmas of the claim, in their order:
- Cells by their keys: where a key is, a cell more, a cell less. No program in sight.
- The table as a trie: buckets by the bits of their keys' hashes. No program in sight.
- The contracts of space.Used, space.Give.
- The contracts of space.Take, space.Free.
-/
import Derived.Test.YtijhamllnnilbaaGreatDoorU02
import Derived.Test.YtijhamllnnilbaaGreatDoorU03
import Derived.Deep.RegionHeld
set_option linter.unusedVariables false
set_option linter.unusedSimpArgs false
namespace Go.Proofs.YtijhamllnnilbaaGreatDoor.Ha
open Go.RowKit Go.Proofs.YtijhamllnnilbaaGreatDoor.Mem Go.Proofs.YtijhamllnnilbaaGreatDoor.Pg Go.Proofs.YtijhamllnnilbaaGreatDoor.Gr
set_option linter.unusedVariables false
set_option linter.unusedSimpArgs false

/-- By their keys. -/
def Sorted (l : List Cel) : Prop := l.Pairwise (fun a b => a.key < b.key)
/-- How many keys lie below. -/
def pos (k : List UInt8) (l : List Cel) : Nat := l.countP (fun c => decide (c.key < k))
def has (k : List UInt8) (l : List Cel) : Prop := ∃ c, c ∈ l ∧ c.key = k
/-- With a cell. -/
def ins (c : Cel) : List Cel → List Cel
  | [] => [c]
  | a :: l => if a.key < c.key then a :: ins c l else if a.key = c.key then c :: l else c :: a :: l
/-- Without a key. -/
def cutK (k : List UInt8) (l : List Cel) : List Cel := l.filter (fun c => decide (c.key ≠ k))
theorem pos_le (k : List UInt8) (l : List Cel) : pos k l ≤ l.length := List.countP_le_length
theorem pos_cons_lt {k : List UInt8} {a : Cel} {l : List Cel} (h : a.key < k) : pos k (a :: l) = pos k l + 1 := by
  unfold pos; rw [List.countP_cons_of_pos (by simpa using h)]
theorem Sorted.tail {a : Cel} {l : List Cel} (h : Sorted (a :: l)) : Sorted l := (List.pairwise_cons.1 h).2
theorem Sorted.head {a : Cel} {l : List Cel} (h : Sorted (a :: l)) : ∀ c, c ∈ l → a.key < c.key := (List.pairwise_cons.1 h).1
theorem pos_cons_ge {k : List UInt8} {a : Cel} {l : List Cel} (hs : Sorted (a :: l)) (h : ¬ a.key < k) : pos k (a :: l) = 0 := by
  unfold pos
  rw [List.countP_eq_zero]
  intro c hc
  rw [decide_eq_true_eq]
  intro hck
  rcases List.mem_cons.1 hc with e | e
  · subst e; exact h hck
  · exact h (list_lt_trans (hs.head c e) hck)
/-- Below the place the keys are smaller, from it on they aren't. -/
theorem pos_lt {k : List UInt8} : ∀ {l : List Cel}, Sorted l → ∀ i (h : i < l.length), l[i].key < k ↔ i < pos k l
  | [], _, i, h => by simp at h
  | a :: l, hs, i, h => by
    by_cases ha : a.key < k
    · rw [pos_cons_lt ha]
      rcases i with _ | i
      · simp [ha]
      · simpa using pos_lt hs.tail i (by simpa using h)
    · rw [pos_cons_ge hs ha]
      constructor
      · intro hk
        exfalso
        rcases i with _ | i
        · exact ha hk
        · exact ha (list_lt_trans (hs.head _ (List.getElem_mem (by simpa using h))) hk)
      · intro h; omega
theorem has_iff {k : List UInt8} : ∀ {l : List Cel}, Sorted l → (has k l ↔ ∃ h : pos k l < l.length, (l[pos k l]).key = k)
  | [], _ => by simp [has]
  | a :: l, hs => by
    by_cases ha : a.key < k
    · have h1 := pos_cons_lt (l := l) ha
      have ih := has_iff (k := k) hs.tail
      have hne : a.key ≠ k := fun e => by rw [e] at ha; exact list_lt_irrefl _ ha
      have h2 : has k (a :: l) ↔ has k l := by
        constructor
        · rintro ⟨c, hc, e⟩
          rcases List.mem_cons.1 hc with h | h
          · subst h; exact absurd e hne
          · exact ⟨c, h, e⟩
        · rintro ⟨c, hc, e⟩
          exact ⟨c, List.mem_cons_of_mem _ hc, e⟩
      rw [h2, ih]
      constructor
      · rintro ⟨h, e⟩
        refine ⟨by rw [h1]; simpa using h, ?_⟩
        simp only [h1, List.getElem_cons_succ]
        exact e
      · rintro ⟨h, e⟩
        refine ⟨by rw [h1] at h; simpa using h, ?_⟩
        simp only [h1, List.getElem_cons_succ] at e
        exact e
    · have h1 := pos_cons_ge hs ha
      constructor
      · rintro ⟨c, hc, e⟩
        refine ⟨by rw [h1]; simp, ?_⟩
        simp only [h1, List.getElem_cons_zero]
        rcases List.mem_cons.1 hc with h | h
        · subst h; exact e
        · exact absurd (by rw [← e]; exact hs.head c h) ha
      · rintro ⟨h, e⟩
        simp only [h1, List.getElem_cons_zero] at e
        exact ⟨a, List.mem_cons_self .., e⟩
theorem Fits.sorted {l : List Cel} (h : Fits l) : Sorted l := h.lt
end Go.Proofs.YtijhamllnnilbaaGreatDoor.Ha
namespace Go.Proofs.YtijhamllnnilbaaGreatDoor.Ha
open Go.RowKit Go.Proofs.YtijhamllnnilbaaGreatDoor.Mem Go.Proofs.YtijhamllnnilbaaGreatDoor.Pg Go.Proofs.YtijhamllnnilbaaGreatDoor.Gr
set_option linter.unusedVariables false
set_option linter.unusedSimpArgs false

/-- A bucket: its own page, that page's cells, the pages behind it with theirs. -/
structure Lf where
  n : Nat
  cs : List Cel
  ov : List (Nat × List Cel)
def Lf.pgs (b : Lf) : List (Nat × List Cel) := (b.n, b.cs) :: b.ov
def Lf.cells (b : Lf) : List Cel := b.pgs.flatMap (·.2)
def Lf.nums (b : Lf) : List Nat := b.pgs.map (·.1)
inductive Tri where
  | leaf (b : Lf)
  | node (z o : Tri)
namespace Tri
/-- The bucket to which bits lead. -/
def at' : Tri → Nat → Lf
  | leaf b, _ => b
  | node z o, i => if i % 2 = 0 then z.at' (i / 2) else o.at' (i / 2)
/-- How deep that is. -/
def dep : Tri → Nat → Nat
  | leaf _, _ => 0
  | node z o, i => if i % 2 = 0 then z.dep (i / 2) + 1 else o.dep (i / 2) + 1
def height : Tri → Nat
  | leaf _ => 0
  | node z o => max z.height o.height + 1
def leaves : Tri → List Lf
  | leaf b => [b]
  | node z o => z.leaves ++ o.leaves
theorem dep_le : ∀ (t : Tri) (i : Nat), t.dep i ≤ t.height
  | leaf _, _ => Nat.le_refl _
  | node z o, i => by
    have h1 := z.dep_le (i / 2)
    have h2 := o.dep_le (i / 2)
    unfold dep height
    split <;> omega
theorem half_mod (i D : Nat) : i % 2 ^ (D + 1) % 2 = i % 2 ∧ i % 2 ^ (D + 1) / 2 = i / 2 % 2 ^ D := by
  rw [Nat.pow_succ, Nat.mul_comm]
  constructor
  · exact Nat.mod_mul_right_mod i 2 (2 ^ D)
  · exact Nat.mod_mul_right_div_self i 2 (2 ^ D)
theorem at_mod : ∀ (t : Tri) (i D : Nat), t.dep i ≤ D → t.at' (i % 2 ^ D) = t.at' i ∧ t.dep (i % 2 ^ D) = t.dep i
  | leaf _, _, _, _ => ⟨rfl, rfl⟩
  | node z o, i, D, h => by
    rcases D with _ | D
    · unfold dep at h; split at h <;> omega
    · obtain ⟨h1, h2⟩ := half_mod i D
      unfold at' dep
      rw [h1, h2]
      unfold dep at h
      split
      · rename_i e
        rw [if_pos e] at h
        obtain ⟨a, b⟩ := z.at_mod (i / 2) D (by omega)
        exact ⟨a, by rw [b]⟩
      · rename_i e
        rw [if_neg e] at h
        obtain ⟨a, b⟩ := o.at_mod (i / 2) D (by omega)
        exact ⟨a, by rw [b]⟩
theorem at_mem : ∀ (t : Tri) (i : Nat), t.at' i ∈ t.leaves
  | leaf b, _ => List.mem_singleton.2 rfl
  | node z o, i => by
    unfold at' leaves
    split
    · exact List.mem_append_left _ (z.at_mem _)
    · exact List.mem_append_right _ (o.at_mem _)
/-- Each bucket is reached. -/
theorem mem_at : ∀ (t : Tri) (b : Lf), b ∈ t.leaves → ∃ i, i < 2 ^ t.height ∧ t.at' i = b
  | leaf c, b, h => ⟨0, by simp [height], (List.mem_singleton.1 h).symm⟩
  | node z o, b, h => by
    have h2 : 2 ^ (node z o).height = 2 * 2 ^ max z.height o.height := by (show 2 ^ (max z.height o.height + 1) = _; rw [Nat.pow_succ, Nat.mul_comm])
    rcases List.mem_append.1 h with h | h
    · obtain ⟨i, h3, h4⟩ := z.mem_at b h
      have h5 : 2 ^ z.height ≤ 2 ^ max z.height o.height := Nat.pow_le_pow_right (by omega) (by omega)
      refine ⟨2 * i, by omega, ?_⟩
      unfold at'
      rw [if_pos (by omega), show 2 * i / 2 = i by omega]
      exact h4
    · obtain ⟨i, h3, h4⟩ := o.mem_at b h
      have h5 : 2 ^ o.height ≤ 2 ^ max z.height o.height := Nat.pow_le_pow_right (by omega) (by omega)
      refine ⟨2 * i + 1, by omega, ?_⟩
      unfold at'
      rw [if_neg (by omega), show (2 * i + 1) / 2 = i by omega]
      exact h4
/-- Where buckets have numbers of their own, one number is one bucket, one depth, and the same bits. -/
theorem at_inj : ∀ (t : Tri), (t.leaves.map Lf.n).Nodup → ∀ i j, (t.at' i).n = (t.at' j).n → t.at' i = t.at' j ∧ t.dep i = t.dep j ∧ i % 2 ^ t.dep i = j % 2 ^ t.dep i
  | leaf b, _, i, j, _ => ⟨rfl, rfl, by simp [dep, Nat.mod_one]⟩
  | node z o, hn, i, j, h => by
    unfold leaves at hn
    rw [List.map_append, List.nodup_append] at hn
    obtain ⟨h1, h2, h3⟩ := hn
    have cross : ∀ x y, (z.at' x).n ≠ (o.at' y).n := fun x y =>
      h3 _ (List.mem_map_of_mem (z.at_mem x)) _ (List.mem_map_of_mem (o.at_mem y))
    have step : ∀ d : Nat, i % 2 = j % 2 → i / 2 % 2 ^ d = j / 2 % 2 ^ d → i % 2 ^ (d + 1) = j % 2 ^ (d + 1) := fun d e1 e2 => by
      obtain ⟨a1, a2⟩ := half_mod i d
      obtain ⟨b1, b2⟩ := half_mod j d
      have := Nat.div_add_mod (i % 2 ^ (d + 1)) 2
      have := Nat.div_add_mod (j % 2 ^ (d + 1)) 2
      omega
    unfold at' at h ⊢
    unfold dep
    by_cases hi : i % 2 = 0
    · by_cases hj : j % 2 = 0
      · rw [if_pos hi, if_pos hj] at h ⊢
        rw [if_pos hi, if_pos hj]
        obtain ⟨a, b, c⟩ := z.at_inj h1 _ _ h
        exact ⟨a, by rw [b], step _ (by omega) c⟩
      · rw [if_pos hi, if_neg hj] at h
        exact absurd h (cross _ _)
    · by_cases hj : j % 2 = 0
      · rw [if_neg hi, if_pos hj] at h
        exact absurd h.symm (cross _ _)
      · rw [if_neg hi, if_neg hj] at h ⊢
        rw [if_neg hi, if_neg hj]
        obtain ⟨a, b, c⟩ := o.at_inj h2 _ _ h
        exact ⟨a, by rw [b], step _ (by omega) c⟩
end Tri
end Go.Proofs.YtijhamllnnilbaaGreatDoor.Ha
namespace Go.Proofs.YtijhamllnnilbaaGreatDoor.Sp
open Go.RowKit Go.Proofs.YtijhamllnnilbaaGreatDoor.Mem Go.Proofs.YtijhamllnnilbaaGreatDoor.Pg

def usedF (k : Int) (l : List UInt8) (n : Int) : Bool := decide (0 ≤ n) && (decide (n < (pagesF k l : Int)) && decide (bt l n.toNat = 1))
theorem usedF_iff (k : Int) (l : List UInt8) (n : Int) : usedF k l n = true ↔ 0 ≤ n ∧ n < (pagesF k l : Int) ∧ bt l n.toNat = 1 := by simp [usedF]

set_option maxRecDepth 100000 in
theorem used_any (k d x n : Int) (l : List UInt8) (w : World) (hl : l.length ≤ 1000000) :
    Calls Tryz.prog 70 #[.agg #[.int .i64 k, .int .i64 d, .int .i64 x, .string (str l)], .int .i64 n] w fun e w' =>
      e = .returned (.bool (usedF k l n)) ∧ Below w.heap.size w w' := by
  have hpg := fun w => pages_any k d x l w hl
  have hpl : pagesF k l ≤ l.length := by
    by_cases h : pagesF k l = 0
    · omega
    · have := pagesF_len k l h; have := pagesF_le k l; omega
  have hbt := str_bt l
  have hss := str_size l
  generalize hs : str l = s at hpg hbt hss ⊢
  clear hs
  by_cases h0 : 0 ≤ n
  · have d0 : decide (0 ≤ n) = true := by simpa using h0
    by_cases h1 : n < (pagesF k l : Int)
    · have d1 : decide (n < (pagesF k l : Int)) = true := by simpa using h1
      obtain ⟨m, rfl⟩ : ∃ m : Nat, n = m := ⟨n.toNat, by omega⟩
      have hm : m < s.size := by omega
      have hb := hbt m hm
      have hu : usedF k l m = decide (bt l m = 1) := by simp only [usedF, d0, d1, Bool.true_and, Int.toNat_natCast]
      have Hu := Lib.hid hu
      clear hu hbt
      have hm' : (m : Int) < (s.size : Int) := by omega
      go_enter Tryz.func70, Tryz.ntmps70
      go_wp2_with fail
      refine (hpg _).mono ?_
      rintro e w1 ⟨rfl, hb1⟩
      have hblk := blk_below hb1
      have hc := blk_cell hblk
      have hf := blk_free hblk
      have hsz := lt_of_block hblk
      have hbw := below_tr (below_al (Below.refl _ w) _) hb1
      clear hb1 hpg
      by_cases hone : bt l m = 1
      · have e1 : (bt l m == 1) = true := by simpa using hone
        have Ho := Lib.hid hone
        clear hone
        go_wp2
        go_ret
        exact ⟨by rw [Hu.out]; simp [Ho.out], hbw⟩
      · have e1 : (bt l m == 1) = false := by simpa using hone
        have Ho := Lib.hid hone
        clear hone
        go_wp2
        go_ret
        exact ⟨by rw [Hu.out]; simp [Ho.out], hbw⟩
    · have d1 : decide (n < (pagesF k l : Int)) = false := by simpa using h1
      have hu : usedF k l n = false := by simp only [usedF, d0, d1, Bool.true_and, Bool.false_and]
      go_enter Tryz.func70, Tryz.ntmps70
      go_wp2_with fail
      refine (hpg _).mono ?_
      rintro e w1 ⟨rfl, hb1⟩
      have hblk := blk_below hb1
      have hc := blk_cell hblk
      have hf := blk_free hblk
      have hsz := lt_of_block hblk
      have hbw := below_tr (below_al (Below.refl _ w) _) hb1
      clear hb1 hpg
      go_wp2
      go_ret
      exact ⟨by rw [hu]; rfl, hbw⟩
  · have d0 : decide (0 ≤ n) = false := by simpa using h0
    have hu : usedF k l n = false := by simp only [usedF, d0, Bool.false_and]
    go_enter Tryz.func70, Tryz.ntmps70
    go_wp2
    go_ret
    exact ⟨by first | rfl | (rw [hu]; rfl), below_al (Below.refl _ w) _⟩
end Go.Proofs.YtijhamllnnilbaaGreatDoor.Sp
namespace Go.Proofs.YtijhamllnnilbaaGreatDoor.Sp
open Go.RowKit Go.Proofs.YtijhamllnnilbaaGreatDoor.Mem Go.Proofs.YtijhamllnnilbaaGreatDoor.Pg

theorem cut_take (l : List UInt8) (n : Nat) : (str l).extract 0 n = str (l.take n) := by
  apply ByteArray.ext
  apply Array.toList_inj.1
  simp [ByteArray.data_extract]
/-- The least free page. -/
def takeI (k : Int) (l : List UInt8) : Int := Lib.indexByte (l.take (pagesF k l)) 2
theorem pagesF_le_len (k : Int) (l : List UInt8) : pagesF k l ≤ l.length := by
  by_cases h : pagesF k l = 0
  · omega
  · have := pagesF_len k l h
    have := pagesF_le k l
    omega

set_option maxRecDepth 100000 in
theorem take_ok (k d x : Int) (l : List UInt8) (w : World) (hl : l.length ≤ 1000) (i : Nat) (hi : takeI k l = i) (hp : i < pagesF k l) :
    Calls Tryz.prog 84 #[.agg #[.int .i64 k, .int .i64 d, .int .i64 x, .string (str l)]] w fun e w' =>
      e = .returned (.tuple #[.agg #[.int .i64 k, .int .i64 d, .int .i64 x, .string (str (l.set i 1))], .int .i64 i, .int .i64 0]) ∧ Below w.heap.size w w' := by
  have hpg := fun w => pages_any k d x l w (by omega)
  have hix : ∀ w, Calls Tryz.prog 165 #[.string ((str l).extract 0 (pagesF k l)), .int .u8 2] w fun e w' => e = .returned (.int .i64 (takeI k l)) ∧ w' = w := fun w => by
    rw [cut_take]; exact Tryz.strings_IndexByte (str (l.take (pagesF k l))) 2 w
  have hle : pagesF k l ≤ (str l).size := by rw [str_size]; exact pagesF_le_len k l
  have h64 := pagesF_le k l
  have hst : ∀ w, Calls Tryz.prog 159 #[.agg #[.int .i64 k, .int .i64 d, .int .i64 x, .string (str l)], .int .i64 i, .int .u8 1] w fun e w' => e = .returned (.agg #[.int .i64 k, .int .i64 d, .int .i64 x, .string (str (l.set i 1))]) ∧ Below w.heap.size w w' := fun w => set_any k d x l i 1 w (by rw [str_size] at hle; omega) hl
  rw [hi] at hix
  generalize hs : str l = s at hpg hix hle hst ⊢
  generalize hs2 : str (l.set i 1) = s2 at hst ⊢
  clear hs hs2
  have hp' : ((pagesF k l : Int) == 0) = false := by simp; omega
  have di : decide ((i : Int) < 0) = false := by simp
  have hpos : (0 : Int) ≤ (pagesF k l : Int) := by omega
  have hle' : (pagesF k l : Int) ≤ (s.size : Int) := by omega
  clear hi
  go_enter Tryz.func84, Tryz.ntmps84
  go_wp2_with fail
  refine (hpg _).mono ?_
  rintro e w1 ⟨rfl, hb1⟩
  have blk1 := blk2_below hb1
  have hbw1 := below_tr (below_al (below_al (Below.refl _ w) _) _) hb1
  have hc1 := blk_cell blk1.1
  have hf1 := blk_free blk1.1
  have hsz1 := lt_of_block blk1.1
  have hd1 := blk_cell blk1.2
  have hg1 := blk_free blk1.2
  have hsy1 := lt_of_block blk1.2
  clear hb1
  clear hpg
  go_wp2_with fail
  refine (hix _).mono ?_
  rintro e w2 ⟨rfl, rfl⟩
  go_wp2_with fail
  refine (hst _).mono ?_
  rintro e w2 ⟨rfl, hb2⟩
  have blk2 : w2.heap[w.heap.size]? = _ ∧ w2.heap[w.heap.size + 1]? = _ := ⟨blk_keep blk1.1 hb2, blk_keep blk1.2 hb2⟩
  have hbw2 := below_tr hbw1 hb2
  clear hc1 hf1 hsz1 hd1 hg1 hsy1 hbw1 blk1
  have hc2 := blk_cell blk2.1
  have hf2 := blk_free blk2.1
  have hsz2 := lt_of_block blk2.1
  have hd2 := blk_cell blk2.2
  have hg2 := blk_free blk2.2
  have hsy2 := lt_of_block blk2.2
  clear hb2
  go_wp2
  refine bodyPost_ret (v := .tuple #[.agg #[.int .i64 k, .int .i64 d, .int .i64 x, .string s2], .int .i64 i, .int .i64 0]) (by simp [results, Tryz.results84, go_sem, hd2]) rfl ⟨rfl, ?_⟩
  exact below_set (below_set (below_set (below_set hbw2 (Nat.le_succ _)) (Nat.le_succ _)) (Nat.le_succ _)) (Nat.le_succ _)

end Go.Proofs.YtijhamllnnilbaaGreatDoor.Sp
