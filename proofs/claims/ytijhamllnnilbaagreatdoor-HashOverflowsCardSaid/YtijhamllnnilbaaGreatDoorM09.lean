/- Lemmas of the claim, in their order:
- The table as a trie: buckets by the bits of their keys' hashes. No program in sight.
- A part of the trie is another one. No program in sight.
- The pages of a bucket: a cell more, a key less. No program in sight.
- The contract of space.Give.
-/
import Derived.Test.YtijhamllnnilbaaGreatDoorM05
import Derived.Test.YtijhamllnnilbaaGreatDoorM08
set_option linter.unusedVariables false
set_option linter.unusedSimpArgs false
namespace Go.Proofs.YtijhamllnnilbaaGreatDoor.Ha
open Go.RowKit Go.Proofs.YtijhamllnnilbaaGreatDoor.Mem Go.Proofs.YtijhamllnnilbaaGreatDoor.Pg Go.Proofs.YtijhamllnnilbaaGreatDoor.Gr
set_option linter.unusedVariables false
set_option linter.unusedSimpArgs false

/-- A bucket: its own page, that page's cells, the pages behind it with theirs. -/
structure Lf where
  n : Nat
  cs : List Cel
  ov : List (Nat × List Cel)
def Lf.pgs (b : Lf) : List (Nat × List Cel) := (b.n, b.cs) :: b.ov
def Lf.cells (b : Lf) : List Cel := b.pgs.flatMap (·.2)
def Lf.nums (b : Lf) : List Nat := b.pgs.map (·.1)
inductive Tri where
  | leaf (b : Lf)
  | node (z o : Tri)
namespace Tri
/-- The bucket to which bits lead. -/
def at' : Tri → Nat → Lf
  | leaf b, _ => b
  | node z o, i => if i % 2 = 0 then z.at' (i / 2) else o.at' (i / 2)
/-- How deep that is. -/
def dep : Tri → Nat → Nat
  | leaf _, _ => 0
  | node z o, i => if i % 2 = 0 then z.dep (i / 2) + 1 else o.dep (i / 2) + 1
def height : Tri → Nat
  | leaf _ => 0
  | node z o => max z.height o.height + 1
def leaves : Tri → List Lf
  | leaf b => [b]
  | node z o => z.leaves ++ o.leaves
theorem dep_le : ∀ (t : Tri) (i : Nat), t.dep i ≤ t.height
  | leaf _, _ => Nat.le_refl _
  | node z o, i => by
    have h1 := z.dep_le (i / 2)
    have h2 := o.dep_le (i / 2)
    unfold dep height
    split <;> omega
theorem half_mod (i D : Nat) : i % 2 ^ (D + 1) % 2 = i % 2 ∧ i % 2 ^ (D + 1) / 2 = i / 2 % 2 ^ D := by
  rw [Nat.pow_succ, Nat.mul_comm]
  constructor
  · exact Nat.mod_mul_right_mod i 2 (2 ^ D)
  · exact Nat.mod_mul_right_div_self i 2 (2 ^ D)
theorem at_mod : ∀ (t : Tri) (i D : Nat), t.dep i ≤ D → t.at' (i % 2 ^ D) = t.at' i ∧ t.dep (i % 2 ^ D) = t.dep i
  | leaf _, _, _, _ => ⟨rfl, rfl⟩
  | node z o, i, D, h => by
    rcases D with _ | D
    · unfold dep at h; split at h <;> omega
    · obtain ⟨h1, h2⟩ := half_mod i D
      unfold at' dep
      rw [h1, h2]
      unfold dep at h
      split
      · rename_i e
        rw [if_pos e] at h
        obtain ⟨a, b⟩ := z.at_mod (i / 2) D (by omega)
        exact ⟨a, by rw [b]⟩
      · rename_i e
        rw [if_neg e] at h
        obtain ⟨a, b⟩ := o.at_mod (i / 2) D (by omega)
        exact ⟨a, by rw [b]⟩
theorem at_mem : ∀ (t : Tri) (i : Nat), t.at' i ∈ t.leaves
  | leaf b, _ => List.mem_singleton.2 rfl
  | node z o, i => by
    unfold at' leaves
    split
    · exact List.mem_append_left _ (z.at_mem _)
    · exact List.mem_append_right _ (o.at_mem _)
/-- Each bucket is reached. -/
theorem mem_at : ∀ (t : Tri) (b : Lf), b ∈ t.leaves → ∃ i, i < 2 ^ t.height ∧ t.at' i = b
  | leaf c, b, h => ⟨0, by simp [height], (List.mem_singleton.1 h).symm⟩
  | node z o, b, h => by
    have h2 : 2 ^ (node z o).height = 2 * 2 ^ max z.height o.height := by (show 2 ^ (max z.height o.height + 1) = _; rw [Nat.pow_succ, Nat.mul_comm])
    rcases List.mem_append.1 h with h | h
    · obtain ⟨i, h3, h4⟩ := z.mem_at b h
      have h5 : 2 ^ z.height ≤ 2 ^ max z.height o.height := Nat.pow_le_pow_right (by omega) (by omega)
      refine ⟨2 * i, by omega, ?_⟩
      unfold at'
      rw [if_pos (by omega), show 2 * i / 2 = i by omega]
      exact h4
    · obtain ⟨i, h3, h4⟩ := o.mem_at b h
      have h5 : 2 ^ o.height ≤ 2 ^ max z.height o.height := Nat.pow_le_pow_right (by omega) (by omega)
      refine ⟨2 * i + 1, by omega, ?_⟩
      unfold at'
      rw [if_neg (by omega), show (2 * i + 1) / 2 = i by omega]
      exact h4
/-- Where buckets have numbers of their own, one number is one bucket, one depth, and the same bits. -/
theorem at_inj : ∀ (t : Tri), (t.leaves.map Lf.n).Nodup → ∀ i j, (t.at' i).n = (t.at' j).n → t.at' i = t.at' j ∧ t.dep i = t.dep j ∧ i % 2 ^ t.dep i = j % 2 ^ t.dep i
  | leaf b, _, i, j, _ => ⟨rfl, rfl, by simp [dep, Nat.mod_one]⟩
  | node z o, hn, i, j, h => by
    unfold leaves at hn
    rw [List.map_append, List.nodup_append] at hn
    obtain ⟨h1, h2, h3⟩ := hn
    have cross : ∀ x y, (z.at' x).n ≠ (o.at' y).n := fun x y =>
      h3 _ (List.mem_map_of_mem (z.at_mem x)) _ (List.mem_map_of_mem (o.at_mem y))
    have step : ∀ d : Nat, i % 2 = j % 2 → i / 2 % 2 ^ d = j / 2 % 2 ^ d → i % 2 ^ (d + 1) = j % 2 ^ (d + 1) := fun d e1 e2 => by
      obtain ⟨a1, a2⟩ := half_mod i d
      obtain ⟨b1, b2⟩ := half_mod j d
      have := Nat.div_add_mod (i % 2 ^ (d + 1)) 2
      have := Nat.div_add_mod (j % 2 ^ (d + 1)) 2
      omega
    unfold at' at h ⊢
    unfold dep
    by_cases hi : i % 2 = 0
    · by_cases hj : j % 2 = 0
      · rw [if_pos hi, if_pos hj] at h ⊢
        rw [if_pos hi, if_pos hj]
        obtain ⟨a, b, c⟩ := z.at_inj h1 _ _ h
        exact ⟨a, by rw [b], step _ (by omega) c⟩
      · rw [if_pos hi, if_neg hj] at h
        exact absurd h (cross _ _)
    · by_cases hj : j % 2 = 0
      · rw [if_neg hi, if_pos hj] at h
        exact absurd h.symm (cross _ _)
      · rw [if_neg hi, if_neg hj] at h ⊢
        rw [if_neg hi, if_neg hj]
        obtain ⟨a, b, c⟩ := o.at_inj h2 _ _ h
        exact ⟨a, by rw [b], step _ (by omega) c⟩
end Tri
end Go.Proofs.YtijhamllnnilbaaGreatDoor.Ha
namespace Go.Proofs.YtijhamllnnilbaaGreatDoor.Ha
open Go.RowKit Go.Proofs.YtijhamllnnilbaaGreatDoor.Mem Go.Proofs.YtijhamllnnilbaaGreatDoor.Pg Go.Proofs.YtijhamllnnilbaaGreatDoor.Gr
set_option linter.unusedVariables false
set_option linter.unusedSimpArgs false
namespace Tri
/-- What stands k bits deep. -/
def sub : Tri → Nat → Nat → Tri
  | t, _, 0 => t
  | leaf b, _, _ + 1 => leaf b
  | node z o, h, k + 1 => if h % 2 = 0 then z.sub (h / 2) k else o.sub (h / 2) k
/-- Another one stands there. -/
def upd : Tri → Nat → Nat → Tri → Tri
  | _, _, 0, s => s
  | leaf b, _, _ + 1, _ => leaf b
  | node z o, h, k + 1, s => if h % 2 = 0 then node (z.upd (h / 2) k s) o else node z (o.upd (h / 2) k s)
theorem at_node (z o : Tri) (i : Nat) : (node z o).at' i = if i % 2 = 0 then z.at' (i / 2) else o.at' (i / 2) := rfl
theorem dep_node (z o : Tri) (i : Nat) : (node z o).dep i = if i % 2 = 0 then z.dep (i / 2) + 1 else o.dep (i / 2) + 1 := rfl
theorem height_node (z o : Tri) : (node z o).height = max z.height o.height + 1 := rfl
theorem sub_zero (t : Tri) (h : Nat) : t.sub h 0 = t := by cases t <;> rfl
theorem upd_zero (t : Tri) (h : Nat) (s : Tri) : t.upd h 0 s = s := by cases t <;> rfl
theorem mod_step (i h k : Nat) : i % 2 ^ (k + 1) = h % 2 ^ (k + 1) ↔ i % 2 = h % 2 ∧ i / 2 % 2 ^ k = h / 2 % 2 ^ k := by
  obtain ⟨a1, a2⟩ := half_mod i k
  obtain ⟨b1, b2⟩ := half_mod h k
  have h1 := Nat.div_add_mod (i % 2 ^ (k + 1)) 2
  have h2 := Nat.div_add_mod (h % 2 ^ (k + 1)) 2
  constructor
  · intro e
    rw [e] at a1 a2
    exact ⟨by omega, by omega⟩
  · rintro ⟨e1, e2⟩
    omega
theorem div_step (i k : Nat) : i / 2 / 2 ^ k = i / 2 ^ (k + 1) := by
  rw [Nat.div_div_eq_div_mul, Nat.pow_succ, Nat.mul_comm]
theorem at_upd (s : Tri) : ∀ (k : Nat) (t : Tri) (h i : Nat), k ≤ t.dep h → (t.upd h k s).at' i = if i % 2 ^ k = h % 2 ^ k then s.at' (i / 2 ^ k) else t.at' i
  | 0, t, h, i, _ => by rw [upd_zero]; simp [Nat.mod_one]
  | k + 1, leaf b, h, i, hk => by simp [dep] at hk
  | k + 1, node z o, h, i, hk => by
    rw [dep_node] at hk
    simp only [mod_step i h k, ← div_step]
    by_cases hh : h % 2 = 0
    · rw [if_pos hh] at hk
      unfold upd; rw [if_pos hh]
      rw [at_node, at_node]
      by_cases hi : i % 2 = 0
      · rw [if_pos hi, if_pos hi, at_upd s k z (h / 2) (i / 2) (by omega)]
        simp [hi, hh]
      · rw [if_neg hi, if_neg hi, if_neg (by omega)]
    · rw [if_neg hh] at hk
      unfold upd; rw [if_neg hh]
      rw [at_node, at_node]
      by_cases hi : i % 2 = 0
      · rw [if_pos hi, if_pos hi, if_neg (by omega)]
      · rw [if_neg hi, if_neg hi, at_upd s k o (h / 2) (i / 2) (by omega)]
        have e : i % 2 = h % 2 := by omega
        simp [e]
theorem dep_upd (s : Tri) : ∀ (k : Nat) (t : Tri) (h i : Nat), k ≤ t.dep h → (t.upd h k s).dep i = if i % 2 ^ k = h % 2 ^ k then k + s.dep (i / 2 ^ k) else t.dep i
  | 0, t, h, i, _ => by rw [upd_zero]; simp [Nat.mod_one]
  | k + 1, leaf b, h, i, hk => by simp [dep] at hk
  | k + 1, node z o, h, i, hk => by
    rw [dep_node] at hk
    simp only [mod_step i h k, ← div_step]
    by_cases hh : h % 2 = 0
    · rw [if_pos hh] at hk
      unfold upd; rw [if_pos hh]
      rw [dep_node, dep_node]
      by_cases hi : i % 2 = 0
      · rw [if_pos hi, if_pos hi, dep_upd s k z (h / 2) (i / 2) (by omega)]
        by_cases e : i / 2 % 2 ^ k = h / 2 % 2 ^ k
        · rw [if_pos e, if_pos ⟨by omega, e⟩]; omega
        · rw [if_neg e, if_neg (fun x => e x.2)]
      · rw [if_neg hi, if_neg hi, if_neg (by omega)]
    · rw [if_neg hh] at hk
      unfold upd; rw [if_neg hh]
      rw [dep_node, dep_node]
      by_cases hi : i % 2 = 0
      · rw [if_pos hi, if_pos hi, if_neg (by omega)]
      · rw [if_neg hi, if_neg hi, dep_upd s k o (h / 2) (i / 2) (by omega)]
        by_cases e : i / 2 % 2 ^ k = h / 2 % 2 ^ k
        · rw [if_pos e, if_pos ⟨by omega, e⟩]; omega
        · rw [if_neg e, if_neg (fun x => e x.2)]
theorem sub_dep : ∀ (t : Tri) (h : Nat), t.sub h (t.dep h) = leaf (t.at' h)
  | leaf b, h => rfl
  | node z o, h => by
    unfold dep at'
    by_cases hh : h % 2 = 0
    · rw [if_pos hh, if_pos hh]; unfold sub; rw [if_pos hh]; exact z.sub_dep _
    · rw [if_neg hh, if_neg hh]; unfold sub; rw [if_neg hh]; exact o.sub_dep _
theorem upd_sub : ∀ (k : Nat) (t : Tri) (h : Nat), t.upd h k (t.sub h k) = t
  | 0, t, h => by rw [upd_zero, sub_zero]
  | k + 1, leaf b, h => rfl
  | k + 1, node z o, h => by
    unfold upd sub
    by_cases hh : h % 2 = 0
    · rw [if_pos hh, if_pos hh, upd_sub k z]
    · rw [if_neg hh, if_neg hh, upd_sub k o]
theorem at_sub (t : Tri) (k h i : Nat) (hk : k ≤ t.dep h) (e : i % 2 ^ k = h % 2 ^ k) : t.at' i = (t.sub h k).at' (i / 2 ^ k) := by
  have := at_upd (t.sub h k) k t h i hk
  rw [upd_sub, if_pos e] at this
  exact this
theorem dep_sub (t : Tri) (k h i : Nat) (hk : k ≤ t.dep h) (e : i % 2 ^ k = h % 2 ^ k) : t.dep i = k + (t.sub h k).dep (i / 2 ^ k) := by
  have := dep_upd (t.sub h k) k t h i hk
  rw [upd_sub, if_pos e] at this
  exact this
/-- Where one part of the buckets is another one. -/
theorem leaves_upd : ∀ (k : Nat) (t : Tri) (h : Nat), k ≤ t.dep h → ∃ L R, t.leaves = L ++ ((t.sub h k).leaves ++ R) ∧ ∀ s, (t.upd h k s).leaves = L ++ (s.leaves ++ R)
  | 0, t, h, _ => ⟨[], [], by rw [sub_zero]; simp, fun s => by rw [upd_zero]; simp⟩
  | k + 1, leaf b, h, hk => by simp [dep] at hk
  | k + 1, node z o, h, hk => by
    unfold dep at hk
    unfold sub
    by_cases hh : h % 2 = 0
    · rw [if_pos hh] at hk ⊢
      obtain ⟨L, R, e, f⟩ := leaves_upd k z (h / 2) (by omega)
      refine ⟨L, R ++ o.leaves, ?_, fun s => ?_⟩
      · show z.leaves ++ o.leaves = _
        rw [e]; simp
      · unfold upd; rw [if_pos hh]
        show (z.upd _ _ _).leaves ++ o.leaves = _
        rw [f]; simp
    · rw [if_neg hh] at hk ⊢
      obtain ⟨L, R, e, f⟩ := leaves_upd k o (h / 2) (by omega)
      refine ⟨z.leaves ++ L, R, ?_, fun s => ?_⟩
      · show z.leaves ++ o.leaves = _
        rw [e]; simp
      · unfold upd; rw [if_neg hh]
        show z.leaves ++ (o.upd _ _ _).leaves = _
        rw [f]; simp
theorem height_upd (s : Tri) : ∀ (k : Nat) (t : Tri) (h : Nat), (t.upd h k s).height ≤ max t.height (k + s.height)
  | 0, t, h => by rw [upd_zero]; omega
  | k + 1, leaf b, h => by unfold upd; omega
  | k + 1, node z o, h => by
    unfold upd
    by_cases hh : h % 2 = 0
    · rw [if_pos hh]
      have := height_upd s k z (h / 2)
      rw [height_node, height_node]
      omega
    · rw [if_neg hh]
      have := height_upd s k o (h / 2)
      rw [height_node, height_node]
      omega
theorem leaves_pow : ∀ t : Tri, t.leaves.length ≤ 2 ^ t.height
  | leaf _ => by simp [leaves, height]
  | node z o => by
    have h1 := z.leaves_pow
    have h2 := o.leaves_pow
    have h3 : 2 ^ z.height ≤ 2 ^ max z.height o.height := Nat.pow_le_pow_right (by omega) (by omega)
    have h4 : 2 ^ o.height ≤ 2 ^ max z.height o.height := Nat.pow_le_pow_right (by omega) (by omega)
    have e : 2 ^ (node z o).height = 2 * 2 ^ max z.height o.height := by (show 2 ^ (max z.height o.height + 1) = _; rw [Nat.pow_succ, Nat.mul_comm])
    rw [e]
    unfold leaves
    rw [List.length_append]
    omega
/-- Some bits lead as deep as it goes. -/
theorem height_at : ∀ t : Tri, ∃ i, i < 2 ^ t.height ∧ t.dep i = t.height
  | leaf _ => ⟨0, by simp [height], rfl⟩
  | node z o => by
    have e : 2 ^ (node z o).height = 2 * 2 ^ max z.height o.height := by (show 2 ^ (max z.height o.height + 1) = _; rw [Nat.pow_succ, Nat.mul_comm])
    have h3 : 2 ^ z.height ≤ 2 ^ max z.height o.height := Nat.pow_le_pow_right (by omega) (by omega)
    have h4 : 2 ^ o.height ≤ 2 ^ max z.height o.height := Nat.pow_le_pow_right (by omega) (by omega)
    rcases Nat.le_total o.height z.height with hle | hle
    · obtain ⟨i, h1, h2⟩ := z.height_at
      refine ⟨2 * i, by omega, ?_⟩
      unfold dep height
      rw [if_pos (by omega), show 2 * i / 2 = i by omega, h2]
      omega
    · obtain ⟨i, h1, h2⟩ := o.height_at
      refine ⟨2 * i + 1, by omega, ?_⟩
      unfold dep height
      rw [if_neg (by omega), show (2 * i + 1) / 2 = i by omega, h2]
      omega
end Tri
end Go.Proofs.YtijhamllnnilbaaGreatDoor.Ha
namespace Go.Proofs.YtijhamllnnilbaaGreatDoor.Ha
open Go.RowKit Go.Proofs.YtijhamllnnilbaaGreatDoor.Mem Go.Proofs.YtijhamllnnilbaaGreatDoor.Pg Go.Proofs.YtijhamllnnilbaaGreatDoor.Gr
set_option linter.unusedVariables false
set_option linter.unusedSimpArgs false

/-- All cells of pages. -/
def cellsP (ps : List (Nat × List Cel)) : List Cel := ps.flatMap (·.2)
theorem Lf.cells_eq (b : Lf) : b.cells = cellsP b.pgs := rfl
theorem cellsP_append (a b : List (Nat × List Cel)) : cellsP (a ++ b) = cellsP a ++ cellsP b := by simp [cellsP]
theorem cellsP_cons (a : Nat × List Cel) (b : List (Nat × List Cel)) : cellsP (a :: b) = a.2 ++ cellsP b := by simp [cellsP]
/-- Pages without a key. -/
def cutP (k : List UInt8) (ps : List (Nat × List Cel)) : List (Nat × List Cel) := ps.map fun p => (p.1, cutK k p.2)
theorem cutP_len (k : List UInt8) (ps : List (Nat × List Cel)) : (cutP k ps).length = ps.length := by simp [cutP]
theorem cutP_nums (k : List UInt8) (ps : List (Nat × List Cel)) : (cutP k ps).map (·.1) = ps.map (·.1) := by simp [cutP]
theorem cutK_append (k : List UInt8) (a b : List Cel) : cutK k (a ++ b) = cutK k a ++ cutK k b := by simp [cutK]
theorem cutP_cells (k : List UInt8) : ∀ ps : List (Nat × List Cel), cellsP (cutP k ps) = cutK k (cellsP ps)
  | [] => rfl
  | p :: ps => by
    show cellsP ((p.1, cutK k p.2) :: cutP k ps) = _
    rw [cellsP_cons, cellsP_cons, cutK_append, cutP_cells k ps]
theorem cutK_same (k : List UInt8) (l : List Cel) : cutK k (cutK k l) = cutK k l := cut_none (fun ⟨c, h, e⟩ => (mem_cut.1 h).2 e)
theorem has_cut (k : List UInt8) (l : List Cel) : ¬ has k (cutK k l) := fun ⟨c, h, e⟩ => (mem_cut.1 h).2 e
theorem ins_cut {c : Cel} : ∀ {l : List Cel}, Sorted l → ins c (cutK c.key l) = ins c l
  | [], _ => rfl
  | a :: l, hs => by
    have hgt : ∀ x, x ∈ l → a.key < x.key := hs.head
    by_cases ha : a.key < c.key
    · have hne : a.key ≠ c.key := fun e => by rw [e] at ha; exact list_lt_irrefl _ ha
      have e : cutK c.key (a :: l) = a :: cutK c.key l := List.filter_cons_of_pos (by simpa using hne)
      rw [e]
      unfold ins
      rw [if_pos ha, if_pos ha, ins_cut hs.tail]
    · by_cases he : a.key = c.key
      · have e : cutK c.key (a :: l) = cutK c.key l := List.filter_cons_of_neg (by simpa using he)
        have hn : ¬ has c.key l := fun ⟨x, hx, e⟩ => ha (by rw [← e]; exact hs.head x hx)
        rw [e, cut_none hn]
        conv => rhs; unfold ins
        rw [if_neg ha, if_pos he]
        rcases l with _ | ⟨b, l⟩
        · rfl
        · have hb := hgt b (List.mem_cons_self ..)
          have h1 : ¬ b.key < c.key := fun h => list_lt_irrefl _ (list_lt_trans (he ▸ hb) h)
          have h2 : b.key ≠ c.key := fun h => by rw [h, he] at hb; exact list_lt_irrefl _ hb
          unfold ins
          rw [if_neg h1, if_neg h2]
      · have hn : ¬ has c.key (a :: l) := fun ⟨x, hx, e⟩ => by
          rcases List.mem_cons.1 hx with h | h
          · subst h; exact he e
          · exact ha (by rw [← e]; exact hs.head x h)
        rw [cut_none hn]
theorem ins_perm {c : Cel} : ∀ {l : List Cel}, ¬ has c.key l → (ins c l).Perm (c :: l)
  | [], _ => List.Perm.refl _
  | a :: l, h => by
    unfold ins
    have hne : a.key ≠ c.key := fun e => h ⟨a, List.mem_cons_self .., e⟩
    by_cases ha : a.key < c.key
    · rw [if_pos ha]
      exact ((ins_perm (fun ⟨x, hx, e⟩ => h ⟨x, List.mem_cons_of_mem _ hx, e⟩)).cons a).trans (List.Perm.swap c a l)
    · rw [if_neg ha, if_neg hne]
theorem szs_perm {l m : List Cel} (h : l.Perm m) : szs l = szs m := (h.map Cel.sz).sum_nat
theorem szs_ins_new {c : Cel} {l : List Cel} (h : ¬ has c.key l) : szs (ins c l) = szs l + c.sz := by
  rw [szs_perm (ins_perm h)]; simp [szs]; omega
/-- A page of some is another one. -/
theorem cells_set {ps : List (Nat × List Cel)} {j : Nat} {n : Nat} {cs : List Cel} (h : ps[j]? = some (n, cs)) (cs' : List Cel) : ∃ A B, cellsP ps = A ++ (cs ++ B) ∧ cellsP (ps.set j (n, cs')) = A ++ (cs' ++ B) := by
  obtain ⟨hj, e⟩ := List.getElem?_eq_some_iff.1 h
  refine ⟨cellsP (ps.take j), cellsP (ps.drop (j + 1)), ?_, ?_⟩
  · conv => lhs; rw [← List.take_append_drop j ps]
    rw [cellsP_append, List.drop_eq_getElem_cons hj, cellsP_cons, e]
  · rw [List.set_eq_take_append_cons_drop, if_pos hj, cellsP_append, cellsP_cons]
theorem set_nums {ps : List (Nat × List Cel)} {j : Nat} {n : Nat} {cs : List Cel} (h : ps[j]? = some (n, cs)) (cs' : List Cel) : (ps.set j (n, cs')).map (·.1) = ps.map (·.1) := by
  obtain ⟨hj, e⟩ := List.getElem?_eq_some_iff.1 h
  rw [List.map_set]
  have : (ps.map (·.1))[j]? = some n := by rw [List.getElem?_map, h]; rfl
  exact (by rw [List.set_eq_take_append_cons_drop, if_pos (List.getElem?_eq_some_iff.1 this).1]; conv => rhs; rw [← List.take_append_drop j (ps.map (·.1)), List.drop_eq_getElem_cons (List.getElem?_eq_some_iff.1 this).1, (List.getElem?_eq_some_iff.1 this).2])
/-- With a cell more in one of them. -/
theorem cells_ins {ps : List (Nat × List Cel)} {j : Nat} {n : Nat} {cs : List Cel} {x : Cel} (h : ps[j]? = some (n, cs)) (hx : ¬ has x.key cs) : (cellsP (ps.set j (n, ins x cs))).Perm (x :: cellsP ps) := by
  obtain ⟨A, B, h1, h2⟩ := cells_set h (ins x cs)
  rw [h1, h2]
  have e1 : (A ++ (ins x cs ++ B)).Perm (A ++ (x :: cs ++ B)) := List.Perm.append_left A ((ins_perm hx).append_right B)
  exact e1.trans (by simp)
/-- What becomes of a bucket's pages when a cell is put in, and no page is parted: a page has room, or none has. -/
structure SetIn (x : Cel) (ps : List (Nat × List Cel)) (ps' : List (Nat × List Cel)) : Prop where
  nums : ps'.map (·.1) = ps.map (·.1)
  perm : (cellsP ps').Perm (x :: cutK x.key (cellsP ps))
  fits : ∀ p, p ∈ ps' → Fits p.2
theorem fits_cutP {k : List UInt8} {ps : List (Nat × List Cel)} (h : ∀ p, p ∈ ps → Fits p.2) : ∀ p, p ∈ cutP k ps → Fits p.2 := fun p hp => by
  obtain ⟨q, hq, rfl⟩ := List.mem_map.1 hp
  exact (h q hq).cut k
theorem setIn_at {x : Cel} {ps : List (Nat × List Cel)} {j n : Nat} {cs : List Cel} (hf : ∀ p, p ∈ ps → Fits p.2) (hx : x.ok) (h : (cutP x.key ps)[j]? = some (n, cs)) (hr : szs (ins x cs) ≤ 239) : SetIn x ps ((cutP x.key ps).set j (n, ins x cs)) := by
  have hcs : ¬ has x.key cs := by
    have hm := List.mem_of_getElem? h
    obtain ⟨q, _, hq⟩ := List.mem_map.1 hm
    simp only [Prod.mk.injEq] at hq
    rw [← hq.2]
    exact has_cut _ _
  refine ⟨by rw [set_nums h, cutP_nums], ?_, fun p hp => ?_⟩
  · rw [← cutP_cells]
    exact cells_ins h hcs
  · rcases List.mem_or_eq_of_mem_set hp with h1 | rfl
    · exact fits_cutP hf p h1
    · exact (fits_cutP hf _ (List.mem_of_getElem? h)).ins hx hr
/-- Only one page has a key; without it there it is nowhere. -/
theorem cutP_set {k : List UInt8} {ps : List (Nat × List Cel)} {j n : Nat} {cs : List Cel} (h : ps[j]? = some (n, cs)) (hk : ((cellsP ps).map Cel.key).Nodup) (hc : has k cs) : ps.set j (n, cutK k cs) = cutP k ps := by
  obtain ⟨hj, e⟩ := List.getElem?_eq_some_iff.1 h
  have hsplit : ps = ps.take j ++ (n, cs) :: ps.drop (j + 1) := by
    conv => lhs; rw [← List.take_append_drop j ps, List.drop_eq_getElem_cons hj, e]
  rw [hsplit, cellsP_append, cellsP_cons, List.map_append, List.map_append, List.nodup_append, List.nodup_append] at hk
  obtain ⟨c, hc1, hc2⟩ := hc
  have hcm : k ∈ cs.map Cel.key := List.mem_map.2 ⟨c, hc1, hc2⟩
  have none_of : ∀ qs : List (Nat × List Cel), (k ∉ (cellsP qs).map Cel.key) → cutP k qs = qs := by
    intro qs hq
    refine (List.map_congr_left (g := id) fun p hp => ?_).trans (List.map_id qs)
    show (p.1, cutK k p.2) = p
    rw [cut_none (fun ⟨c, h1, h2⟩ => hq (List.mem_map.2 ⟨c, List.mem_flatMap.2 ⟨p, hp, h1⟩, h2⟩))]
  have h1 : k ∉ (cellsP (ps.take j)).map Cel.key := fun hm => hk.2.2 k hm k (List.mem_append_left _ hcm) rfl
  have h2 : k ∉ (cellsP (ps.drop (j + 1))).map Cel.key := fun hm => hk.2.1.2.2 k hcm k hm rfl
  rw [List.set_eq_take_append_cons_drop, if_pos hj]
  conv => rhs; rw [hsplit]
  unfold cutP
  rw [List.map_append, List.map_cons]
  have e1 := none_of _ h1
  have e2 := none_of _ h2
  unfold cutP at e1 e2
  rw [e1, e2]
theorem cutP_none {k : List UInt8} {ps : List (Nat × List Cel)} (h : ∀ p, p ∈ ps → ¬ has k p.2) : cutP k ps = ps := by
  refine (List.map_congr_left (g := id) fun p hp => ?_).trans (List.map_id ps)
  show (p.1, cutK k p.2) = p
  rw [cut_none (h p hp)]
end Go.Proofs.YtijhamllnnilbaaGreatDoor.Ha
namespace Go.Proofs.YtijhamllnnilbaaGreatDoor.Sp
open Go.RowKit Go.Proofs.YtijhamllnnilbaaGreatDoor.Mem Go.Proofs.YtijhamllnnilbaaGreatDoor.Pg

set_option maxRecDepth 100000 in
theorem give_form (k d x n : Int) (l : List UInt8) (w : World) (hl : l.length ≤ 1000000) (hp : pagesF k l = 0) :
    Calls Tryz.prog 78 #[.agg #[.int .i64 k, .int .i64 d, .int .i64 x, .string (str l)], .int .i64 n] w fun e w' =>
      e = .returned (.tuple #[.agg #[.int .i64 0, .int .i64 0, .int .i64 0, .string ⟨#[]⟩], .int .i64 2]) ∧ Below w.heap.size w w' := by
  have hpg := fun w => pages_any k d x l w hl
  generalize hs : str l = s at hpg ⊢
  clear hs
  have hp' : ((pagesF k l : Int) == 0) = true := by simp [hp]
  go_enter Tryz.func78, Tryz.ntmps78
  go_wp2_with fail
  refine (hpg _).mono ?_
  rintro e w1 ⟨rfl, hb1⟩
  have blk1 := blk2_below hb1
  have hbw1 := below_tr (below_al (below_al (Below.refl _ w) _) _) hb1
  have hc1 := blk_cell blk1.1
  have hf1 := blk_free blk1.1
  have hsz1 := lt_of_block blk1.1
  have hd1 := blk_cell blk1.2
  have hg1 := blk_free blk1.2
  have hsy1 := lt_of_block blk1.2
  clear hb1
  clear hpg
  go_wp2
  refine bodyPost_ret (v := .tuple #[.agg #[.int .i64 0, .int .i64 0, .int .i64 0, .string ⟨#[]⟩], .int .i64 2]) (by simp [results, Tryz.results78, go_sem, hd1]) rfl ⟨rfl, ?_⟩
  exact below_set (below_set (below_set (below_set hbw1 (Nat.le_succ _)) (Nat.le_succ _)) (Nat.le_succ _)) (Nat.le_succ _)

set_option maxRecDepth 100000 in
theorem give_arg (k d x n : Int) (l : List UInt8) (w : World) (hl : l.length ≤ 1000000) (hp : pagesF k l ≠ 0) (hu : n < 2 ∨ usedF k l n = false) :
    Calls Tryz.prog 78 #[.agg #[.int .i64 k, .int .i64 d, .int .i64 x, .string (str l)], .int .i64 n] w fun e w' =>
      e = .returned (.tuple #[.agg #[.int .i64 0, .int .i64 0, .int .i64 0, .string ⟨#[]⟩], .int .i64 1]) ∧ Below w.heap.size w w' := by
  have hpg := fun w => pages_any k d x l w hl
  have hug := fun w => used_any k d x n l w hl
  generalize hs : str l = s at hpg hug ⊢
  clear hs
  have hp' : ((pagesF k l : Int) == 0) = false := by simp; exact hp
  by_cases h2 : n < 2
  · have d2 : decide (n < 2) = true := by simpa using h2
    clear hu hug
    go_enter Tryz.func78, Tryz.ntmps78
    go_wp2_with fail
    refine (hpg _).mono ?_
    rintro e w1 ⟨rfl, hb1⟩
    have blk1 := blk2_below hb1
    have hbw1 := below_tr (below_al (below_al (Below.refl _ w) _) _) hb1
    have hc1 := blk_cell blk1.1
    have hf1 := blk_free blk1.1
    have hsz1 := lt_of_block blk1.1
    have hd1 := blk_cell blk1.2
    have hg1 := blk_free blk1.2
    have hsy1 := lt_of_block blk1.2
    clear hb1
    clear hpg
    go_wp2
    refine bodyPost_ret (v := .tuple #[.agg #[.int .i64 0, .int .i64 0, .int .i64 0, .string ⟨#[]⟩], .int .i64 1]) (by simp [results, Tryz.results78, go_sem, hd1]) rfl ⟨rfl, ?_⟩
    exact below_set (below_set (below_set (below_set hbw1 (Nat.le_succ _)) (Nat.le_succ _)) (Nat.le_succ _)) (Nat.le_succ _)
  · have d2 : decide (n < 2) = false := by simpa using h2
    have hu' : usedF k l n = false := hu.resolve_left h2
    clear hu
    rw [hu'] at hug
    go_enter Tryz.func78, Tryz.ntmps78
    go_wp2_with fail
    refine (hpg _).mono ?_
    rintro e w1 ⟨rfl, hb1⟩
    have blk1 := blk2_below hb1
    have hbw1 := below_tr (below_al (below_al (Below.refl _ w) _) _) hb1
    have hc1 := blk_cell blk1.1
    have hf1 := blk_free blk1.1
    have hsz1 := lt_of_block blk1.1
    have hd1 := blk_cell blk1.2
    have hg1 := blk_free blk1.2
    have hsy1 := lt_of_block blk1.2
    clear hb1
    clear hpg
    go_wp2_with fail
    refine (hug _).mono ?_
    rintro e w2 ⟨rfl, hb2⟩
    have blk2 : w2.heap[w.heap.size]? = _ ∧ w2.heap[w.heap.size + 1]? = _ := ⟨blk_keep blk1.1 hb2, blk_keep blk1.2 hb2⟩
    have hbw2 := below_tr hbw1 hb2
    clear hc1 hf1 hsz1 hd1 hg1 hsy1 hbw1 blk1
    have hc2 := blk_cell blk2.1
    have hf2 := blk_free blk2.1
    have hsz2 := lt_of_block blk2.1
    have hd2 := blk_cell blk2.2
    have hg2 := blk_free blk2.2
    have hsy2 := lt_of_block blk2.2
    clear hb2
    clear hug
    go_wp2
    refine bodyPost_ret (v := .tuple #[.agg #[.int .i64 0, .int .i64 0, .int .i64 0, .string ⟨#[]⟩], .int .i64 1]) (by simp [results, Tryz.results78, go_sem, hd2]) rfl ⟨rfl, ?_⟩
    exact below_set (below_set (below_set (below_set hbw2 (Nat.le_succ _)) (Nat.le_succ _)) (Nat.le_succ _)) (Nat.le_succ _)

set_option maxRecDepth 100000 in
theorem give_ok (k d x : Int) (n : Nat) (l : List UInt8) (w : World) (hl : l.length ≤ 1000) (h2 : 2 ≤ n) (hu : usedF k l n = true) :
    Calls Tryz.prog 78 #[.agg #[.int .i64 k, .int .i64 d, .int .i64 x, .string (str l)], .int .i64 n] w fun e w' =>
      e = .returned (.tuple #[.agg #[.int .i64 k, .int .i64 d, .int .i64 x, .string (str (l.set n 2))], .int .i64 0]) ∧ Below w.heap.size w w' := by
  have hpg := fun w => pages_any k d x l w (by omega)
  have hug := fun w => used_any k d x n l w (by omega)
  have hp : pagesF k l ≠ 0 := by have := (usedF_iff k l n).1 hu; omega
  have hlen := (pagesF_len k l hp).2.1
  have hle := pagesF_le k l
  have hn : n < l.length := by have := (usedF_iff k l n).1 hu; omega
  have hst : ∀ w, Calls Tryz.prog 159 #[.agg #[.int .i64 k, .int .i64 d, .int .i64 x, .string (str l)], .int .i64 n, .int .u8 2] w fun e w' => e = .returned (.agg #[.int .i64 k, .int .i64 d, .int .i64 x, .string (str (l.set n 2))]) ∧ Below w.heap.size w w' := fun w => set_any k d x l n 2 w hn hl
  rw [hu] at hug
  generalize hs : str l = s at hpg hug hst ⊢
  generalize hs2 : str (l.set n 2) = s2 at hst ⊢
  clear hs hs2 hlen hle hn
  have hp' : ((pagesF k l : Int) == 0) = false := by simp; exact hp
  have d2 : decide ((n : Int) < 2) = false := by simp; omega
  go_enter Tryz.func78, Tryz.ntmps78
  go_wp2_with fail
  refine (hpg _).mono ?_
  rintro e w1 ⟨rfl, hb1⟩
  have blk1 := blk2_below hb1
  have hbw1 := below_tr (below_al (below_al (Below.refl _ w) _) _) hb1
  have hc1 := blk_cell blk1.1
  have hf1 := blk_free blk1.1
  have hsz1 := lt_of_block blk1.1
  have hd1 := blk_cell blk1.2
  have hg1 := blk_free blk1.2
  have hsy1 := lt_of_block blk1.2
  clear hb1
  clear hpg
  go_wp2_with fail
  refine (hug _).mono ?_
  rintro e w2 ⟨rfl, hb2⟩
  have blk2 : w2.heap[w.heap.size]? = _ ∧ w2.heap[w.heap.size + 1]? = _ := ⟨blk_keep blk1.1 hb2, blk_keep blk1.2 hb2⟩
  have hbw2 := below_tr hbw1 hb2
  clear hc1 hf1 hsz1 hd1 hg1 hsy1 hbw1 blk1
  have hc2 := blk_cell blk2.1
  have hf2 := blk_free blk2.1
  have hsz2 := lt_of_block blk2.1
  have hd2 := blk_cell blk2.2
  have hg2 := blk_free blk2.2
  have hsy2 := lt_of_block blk2.2
  clear hb2
  clear hug
  go_wp2_with fail
  refine (hst _).mono ?_
  rintro e w3 ⟨rfl, hb3⟩
  have blk3 : w3.heap[w.heap.size]? = _ ∧ w3.heap[w.heap.size + 1]? = _ := ⟨blk_keep blk2.1 hb3, blk_keep blk2.2 hb3⟩
  have hbw3 := below_tr hbw2 hb3
  clear hc2 hf2 hsz2 hd2 hg2 hsy2 hbw2 blk2
  have hc3 := blk_cell blk3.1
  have hf3 := blk_free blk3.1
  have hsz3 := lt_of_block blk3.1
  have hd3 := blk_cell blk3.2
  have hg3 := blk_free blk3.2
  have hsy3 := lt_of_block blk3.2
  clear hb3
  clear hst
  go_wp2
  refine bodyPost_ret (v := .tuple #[.agg #[.int .i64 k, .int .i64 d, .int .i64 x, .string s2], .int .i64 0]) (by simp [results, Tryz.results78, go_sem, hd3]) rfl ⟨rfl, ?_⟩
  exact below_set (below_set (below_set (below_set hbw3 (Nat.le_succ _)) (Nat.le_succ _)) (Nat.le_succ _)) (Nat.le_succ _)
end Go.Proofs.YtijhamllnnilbaaGreatDoor.Sp
