/- Lemmas of the claim, in their order:
- A part of the trie is another one. No program in sight.
- The pages of a bucket: a cell more, a key less. No program in sight.
-/
import Derived.Test.YtijhamllnnilbaaGreatDoorQ07
set_option linter.unusedVariables false
set_option linter.unusedSimpArgs false
namespace Go.Proofs.YtijhamllnnilbaaGreatDoor.Ha
open Go.RowKit Go.Proofs.YtijhamllnnilbaaGreatDoor.Mem Go.Proofs.YtijhamllnnilbaaGreatDoor.Pg Go.Proofs.YtijhamllnnilbaaGreatDoor.Gr
set_option linter.unusedVariables false
set_option linter.unusedSimpArgs false
namespace Tri
def sub : Tri → Nat → Nat → Tri
 | t, _, 0 => t
 | leaf b, _, _ + 1 => leaf b
 | node z o, h, k + 1 => if h % 2 = 0 then z.sub (h / 2) k else o.sub (h / 2) k
def upd : Tri → Nat → Nat → Tri → Tri
 | _, _, 0, s => s
 | leaf b, _, _ + 1, _ => leaf b
 | node z o, h, k + 1, s => if h % 2 = 0 then node (z.upd (h / 2) k s) o else node z (o.upd (h / 2) k s)
theorem at_node (z o : Tri) (i : Nat) : (node z o).at' i = if i % 2 = 0 then z.at' (i / 2) else o.at' (i / 2) := rfl
theorem dep_node (z o : Tri) (i : Nat) : (node z o).dep i = if i % 2 = 0 then z.dep (i / 2) + 1 else o.dep (i / 2) + 1 := rfl
theorem height_node (z o : Tri) : (node z o).height = max z.height o.height + 1 := rfl
theorem sub_zero (t : Tri) (h : Nat) : t.sub h 0 = t := by cases t <;> rfl
theorem upd_zero (t : Tri) (h : Nat) (s : Tri) : t.upd h 0 s = s := by cases t <;> rfl
theorem mod_step (i h k : Nat) : i % 2 ^ (k + 1) = h % 2 ^ (k + 1) ↔ i % 2 = h % 2 ∧ i / 2 % 2 ^ k = h / 2 % 2 ^ k := by
 obtain ⟨a1, a2⟩ := half_mod i k
 obtain ⟨b1, b2⟩ := half_mod h k
 have h1 := Nat.div_add_mod (i % 2 ^ (k + 1)) 2
 have h2 := Nat.div_add_mod (h % 2 ^ (k + 1)) 2
 constructor
 · intro e
   rw [e] at a1 a2
   exact ⟨by omega, by omega⟩
 · rintro ⟨e1, e2⟩
   omega
theorem div_step (i k : Nat) : i / 2 / 2 ^ k = i / 2 ^ (k + 1) := by
 rw [Nat.div_div_eq_div_mul, Nat.pow_succ, Nat.mul_comm]
theorem at_upd (s : Tri) : ∀ (k : Nat) (t : Tri) (h i : Nat), k ≤ t.dep h → (t.upd h k s).at' i = if i % 2 ^ k = h % 2 ^ k then s.at' (i / 2 ^ k) else t.at' i
 | 0, t, h, i, _ => by rw [upd_zero]; simp [Nat.mod_one]
 | k + 1, leaf b, h, i, hk => by simp [dep] at hk
 | k + 1, node z o, h, i, hk => by
  rw [dep_node] at hk
  simp only [mod_step i h k, ← div_step]
  by_cases hh : h % 2 = 0
  · rw [if_pos hh] at hk
    unfold upd; rw [if_pos hh]
    rw [at_node, at_node]
    by_cases hi : i % 2 = 0
    · rw [if_pos hi, if_pos hi, at_upd s k z (h / 2) (i / 2) (by omega)]
      simp [hi, hh]
    · rw [if_neg hi, if_neg hi, if_neg (by omega)]
  · rw [if_neg hh] at hk
    unfold upd; rw [if_neg hh]
    rw [at_node, at_node]
    by_cases hi : i % 2 = 0
    · rw [if_pos hi, if_pos hi, if_neg (by omega)]
    · rw [if_neg hi, if_neg hi, at_upd s k o (h / 2) (i / 2) (by omega)]
      have e : i % 2 = h % 2 := by omega
      simp [e]
theorem dep_upd (s : Tri) : ∀ (k : Nat) (t : Tri) (h i : Nat), k ≤ t.dep h → (t.upd h k s).dep i = if i % 2 ^ k = h % 2 ^ k then k + s.dep (i / 2 ^ k) else t.dep i
 | 0, t, h, i, _ => by rw [upd_zero]; simp [Nat.mod_one]
 | k + 1, leaf b, h, i, hk => by simp [dep] at hk
 | k + 1, node z o, h, i, hk => by
  rw [dep_node] at hk
  simp only [mod_step i h k, ← div_step]
  by_cases hh : h % 2 = 0
  · rw [if_pos hh] at hk
    unfold upd; rw [if_pos hh]
    rw [dep_node, dep_node]
    by_cases hi : i % 2 = 0
    · rw [if_pos hi, if_pos hi, dep_upd s k z (h / 2) (i / 2) (by omega)]
      by_cases e : i / 2 % 2 ^ k = h / 2 % 2 ^ k
      · rw [if_pos e, if_pos ⟨by omega, e⟩]; omega
      · rw [if_neg e, if_neg (fun x => e x.2)]
    · rw [if_neg hi, if_neg hi, if_neg (by omega)]
  · rw [if_neg hh] at hk
    unfold upd; rw [if_neg hh]
    rw [dep_node, dep_node]
    by_cases hi : i % 2 = 0
    · rw [if_pos hi, if_pos hi, if_neg (by omega)]
    · rw [if_neg hi, if_neg hi, dep_upd s k o (h / 2) (i / 2) (by omega)]
      by_cases e : i / 2 % 2 ^ k = h / 2 % 2 ^ k
      · rw [if_pos e, if_pos ⟨by omega, e⟩]; omega
      · rw [if_neg e, if_neg (fun x => e x.2)]
theorem sub_dep : ∀ (t : Tri) (h : Nat), t.sub h (t.dep h) = leaf (t.at' h)
 | leaf b, h => rfl
 | node z o, h => by
  unfold dep at'
  by_cases hh : h % 2 = 0
  · rw [if_pos hh, if_pos hh]; unfold sub; rw [if_pos hh]; exact z.sub_dep _
  · rw [if_neg hh, if_neg hh]; unfold sub; rw [if_neg hh]; exact o.sub_dep _
theorem upd_sub : ∀ (k : Nat) (t : Tri) (h : Nat), t.upd h k (t.sub h k) = t
 | 0, t, h => by rw [upd_zero, sub_zero]
 | k + 1, leaf b, h => rfl
 | k + 1, node z o, h => by
  unfold upd sub
  by_cases hh : h % 2 = 0
  · rw [if_pos hh, if_pos hh, upd_sub k z]
  · rw [if_neg hh, if_neg hh, upd_sub k o]
theorem at_sub (t : Tri) (k h i : Nat) (hk : k ≤ t.dep h) (e : i % 2 ^ k = h % 2 ^ k) : t.at' i = (t.sub h k).at' (i / 2 ^ k) := by
 have := at_upd (t.sub h k) k t h i hk
 rw [upd_sub, if_pos e] at this
 exact this
theorem dep_sub (t : Tri) (k h i : Nat) (hk : k ≤ t.dep h) (e : i % 2 ^ k = h % 2 ^ k) : t.dep i = k + (t.sub h k).dep (i / 2 ^ k) := by
 have := dep_upd (t.sub h k) k t h i hk
 rw [upd_sub, if_pos e] at this
 exact this
theorem leaves_upd : ∀ (k : Nat) (t : Tri) (h : Nat), k ≤ t.dep h → ∃ L R, t.leaves = L ++ ((t.sub h k).leaves ++ R) ∧ ∀ s, (t.upd h k s).leaves = L ++ (s.leaves ++ R)
 | 0, t, h, _ => ⟨[], [], by rw [sub_zero]; simp, fun s => by rw [upd_zero]; simp⟩
 | k + 1, leaf b, h, hk => by simp [dep] at hk
 | k + 1, node z o, h, hk => by
  unfold dep at hk
  unfold sub
  by_cases hh : h % 2 = 0
  · rw [if_pos hh] at hk ⊢
    obtain ⟨L, R, e, f⟩ := leaves_upd k z (h / 2) (by omega)
    refine ⟨L, R ++ o.leaves, ?_, fun s => ?_⟩
    · show z.leaves ++ o.leaves = _
      rw [e]; simp
    · unfold upd; rw [if_pos hh]
      show (z.upd _ _ _).leaves ++ o.leaves = _
      rw [f]; simp
  · rw [if_neg hh] at hk ⊢
    obtain ⟨L, R, e, f⟩ := leaves_upd k o (h / 2) (by omega)
    refine ⟨z.leaves ++ L, R, ?_, fun s => ?_⟩
    · show z.leaves ++ o.leaves = _
      rw [e]; simp
    · unfold upd; rw [if_neg hh]
      show z.leaves ++ (o.upd _ _ _).leaves = _
      rw [f]; simp
theorem height_upd (s : Tri) : ∀ (k : Nat) (t : Tri) (h : Nat), (t.upd h k s).height ≤ max t.height (k + s.height)
 | 0, t, h => by rw [upd_zero]; omega
 | k + 1, leaf b, h => by unfold upd; omega
 | k + 1, node z o, h => by
  unfold upd
  by_cases hh : h % 2 = 0
  · rw [if_pos hh]
    have := height_upd s k z (h / 2)
    rw [height_node, height_node]
    omega
  · rw [if_neg hh]
    have := height_upd s k o (h / 2)
    rw [height_node, height_node]
    omega
theorem leaves_pow : ∀ t : Tri, t.leaves.length ≤ 2 ^ t.height
 | leaf _ => by simp [leaves, height]
 | node z o => by
  have h1 := z.leaves_pow
  have h2 := o.leaves_pow
  have h3 : 2 ^ z.height ≤ 2 ^ max z.height o.height := Nat.pow_le_pow_right (by omega) (by omega)
  have h4 : 2 ^ o.height ≤ 2 ^ max z.height o.height := Nat.pow_le_pow_right (by omega) (by omega)
  have e : 2 ^ (node z o).height = 2 * 2 ^ max z.height o.height := by (show 2 ^ (max z.height o.height + 1) = _; rw [Nat.pow_succ, Nat.mul_comm])
  rw [e]
  unfold leaves
  rw [List.length_append]
  omega
theorem height_at : ∀ t : Tri, ∃ i, i < 2 ^ t.height ∧ t.dep i = t.height
 | leaf _ => ⟨0, by simp [height], rfl⟩
 | node z o => by
  have e : 2 ^ (node z o).height = 2 * 2 ^ max z.height o.height := by (show 2 ^ (max z.height o.height + 1) = _; rw [Nat.pow_succ, Nat.mul_comm])
  have h3 : 2 ^ z.height ≤ 2 ^ max z.height o.height := Nat.pow_le_pow_right (by omega) (by omega)
  have h4 : 2 ^ o.height ≤ 2 ^ max z.height o.height := Nat.pow_le_pow_right (by omega) (by omega)
  rcases Nat.le_total o.height z.height with hle | hle
  · obtain ⟨i, h1, h2⟩ := z.height_at
    refine ⟨2 * i, by omega, ?_⟩
    unfold dep height
    rw [if_pos (by omega), show 2 * i / 2 = i by omega, h2]
    omega
  · obtain ⟨i, h1, h2⟩ := o.height_at
    refine ⟨2 * i + 1, by omega, ?_⟩
    unfold dep height
    rw [if_neg (by omega), show (2 * i + 1) / 2 = i by omega, h2]
    omega
end Tri
end Go.Proofs.YtijhamllnnilbaaGreatDoor.Ha
namespace Go.Proofs.YtijhamllnnilbaaGreatDoor.Ha
open Go.RowKit Go.Proofs.YtijhamllnnilbaaGreatDoor.Mem Go.Proofs.YtijhamllnnilbaaGreatDoor.Pg Go.Proofs.YtijhamllnnilbaaGreatDoor.Gr
set_option linter.unusedVariables false
set_option linter.unusedSimpArgs false

def cellsP (ps : List (Nat × List Cel)) : List Cel := ps.flatMap (·.2)
theorem Lf.cells_eq (b : Lf) : b.cells = cellsP b.pgs := rfl
theorem cellsP_append (a b : List (Nat × List Cel)) : cellsP (a ++ b) = cellsP a ++ cellsP b := by simp [cellsP]
theorem cellsP_cons (a : Nat × List Cel) (b : List (Nat × List Cel)) : cellsP (a :: b) = a.2 ++ cellsP b := by simp [cellsP]
def cutP (k : List UInt8) (ps : List (Nat × List Cel)) : List (Nat × List Cel) := ps.map fun p => (p.1, cutK k p.2)
theorem cutP_len (k : List UInt8) (ps : List (Nat × List Cel)) : (cutP k ps).length = ps.length := by simp [cutP]
theorem cutP_nums (k : List UInt8) (ps : List (Nat × List Cel)) : (cutP k ps).map (·.1) = ps.map (·.1) := by simp [cutP]
theorem cutK_append (k : List UInt8) (a b : List Cel) : cutK k (a ++ b) = cutK k a ++ cutK k b := by simp [cutK]
theorem cutP_cells (k : List UInt8) : ∀ ps : List (Nat × List Cel), cellsP (cutP k ps) = cutK k (cellsP ps)
 | [] => rfl
 | p :: ps => by
  show cellsP ((p.1, cutK k p.2) :: cutP k ps) = _
  rw [cellsP_cons, cellsP_cons, cutK_append, cutP_cells k ps]
theorem cutK_same (k : List UInt8) (l : List Cel) : cutK k (cutK k l) = cutK k l := cut_none (fun ⟨c, h, e⟩ => (mem_cut.1 h).2 e)
theorem has_cut (k : List UInt8) (l : List Cel) : ¬ has k (cutK k l) := fun ⟨c, h, e⟩ => (mem_cut.1 h).2 e
theorem ins_cut {c : Cel} : ∀ {l : List Cel}, Sorted l → ins c (cutK c.key l) = ins c l
 | [], _ => rfl
 | a :: l, hs => by
  have hgt : ∀ x, x ∈ l → a.key < x.key := hs.head
  by_cases ha : a.key < c.key
  · have hne : a.key ≠ c.key := fun e => by rw [e] at ha; exact list_lt_irrefl _ ha
    have e : cutK c.key (a :: l) = a :: cutK c.key l := List.filter_cons_of_pos (by simpa using hne)
    rw [e]
    unfold ins
    rw [if_pos ha, if_pos ha, ins_cut hs.tail]
  · by_cases he : a.key = c.key
    · have e : cutK c.key (a :: l) = cutK c.key l := List.filter_cons_of_neg (by simpa using he)
      have hn : ¬ has c.key l := fun ⟨x, hx, e⟩ => ha (by rw [← e]; exact hs.head x hx)
      rw [e, cut_none hn]
      conv => rhs; unfold ins
      rw [if_neg ha, if_pos he]
      rcases l with _ | ⟨b, l⟩
      · rfl
      · have hb := hgt b (List.mem_cons_self ..)
        have h1 : ¬ b.key < c.key := fun h => list_lt_irrefl _ (list_lt_trans (he ▸ hb) h)
        have h2 : b.key ≠ c.key := fun h => by rw [h, he] at hb; exact list_lt_irrefl _ hb
        unfold ins
        rw [if_neg h1, if_neg h2]
    · have hn : ¬ has c.key (a :: l) := fun ⟨x, hx, e⟩ => by
       rcases List.mem_cons.1 hx with h | h
       · subst h; exact he e
       · exact ha (by rw [← e]; exact hs.head x h)
      rw [cut_none hn]
theorem ins_perm {c : Cel} : ∀ {l : List Cel}, ¬ has c.key l → (ins c l).Perm (c :: l)
 | [], _ => List.Perm.refl _
 | a :: l, h => by
  unfold ins
  have hne : a.key ≠ c.key := fun e => h ⟨a, List.mem_cons_self .., e⟩
  by_cases ha : a.key < c.key
  · rw [if_pos ha]
    exact ((ins_perm (fun ⟨x, hx, e⟩ => h ⟨x, List.mem_cons_of_mem _ hx, e⟩)).cons a).trans (List.Perm.swap c a l)
  · rw [if_neg ha, if_neg hne]
theorem szs_perm {l m : List Cel} (h : l.Perm m) : szs l = szs m := (h.map Cel.sz).sum_nat
theorem szs_ins_new {c : Cel} {l : List Cel} (h : ¬ has c.key l) : szs (ins c l) = szs l + c.sz := by
 rw [szs_perm (ins_perm h)]; simp [szs]; omega
theorem cells_set {ps : List (Nat × List Cel)} {j : Nat} {n : Nat} {cs : List Cel} (h : ps[j]? = some (n, cs)) (cs' : List Cel) : ∃ A B, cellsP ps = A ++ (cs ++ B) ∧ cellsP (ps.set j (n, cs')) = A ++ (cs' ++ B) := by
 obtain ⟨hj, e⟩ := List.getElem?_eq_some_iff.1 h
 refine ⟨cellsP (ps.take j), cellsP (ps.drop (j + 1)), ?_, ?_⟩
 · conv => lhs; rw [← List.take_append_drop j ps]
   rw [cellsP_append, List.drop_eq_getElem_cons hj, cellsP_cons, e]
 · rw [List.set_eq_take_append_cons_drop, if_pos hj, cellsP_append, cellsP_cons]
theorem cells_ins {ps : List (Nat × List Cel)} {j : Nat} {n : Nat} {cs : List Cel} {x : Cel} (h : ps[j]? = some (n, cs)) (hx : ¬ has x.key cs) : (cellsP (ps.set j (n, ins x cs))).Perm (x :: cellsP ps) := by
 obtain ⟨A, B, h1, h2⟩ := cells_set h (ins x cs)
 rw [h1, h2]
 have e1 : (A ++ (ins x cs ++ B)).Perm (A ++ (x :: cs ++ B)) := List.Perm.append_left A ((ins_perm hx).append_right B)
 exact e1.trans (by simp)
theorem cutP_set {k : List UInt8} {ps : List (Nat × List Cel)} {j n : Nat} {cs : List Cel} (h : ps[j]? = some (n, cs)) (hk : ((cellsP ps).map Cel.key).Nodup) (hc : has k cs) : ps.set j (n, cutK k cs) = cutP k ps := by
 obtain ⟨hj, e⟩ := List.getElem?_eq_some_iff.1 h
 have hsplit : ps = ps.take j ++ (n, cs) :: ps.drop (j + 1) := by
  conv => lhs; rw [← List.take_append_drop j ps, List.drop_eq_getElem_cons hj, e]
 rw [hsplit, cellsP_append, cellsP_cons, List.map_append, List.map_append, List.nodup_append, List.nodup_append] at hk
 obtain ⟨c, hc1, hc2⟩ := hc
 have hcm : k ∈ cs.map Cel.key := List.mem_map.2 ⟨c, hc1, hc2⟩
 have none_of : ∀ qs : List (Nat × List Cel), (k ∉ (cellsP qs).map Cel.key) → cutP k qs = qs := by
  intro qs hq
  refine (List.map_congr_left (g := id) fun p hp => ?_).trans (List.map_id qs)
  show (p.1, cutK k p.2) = p
  rw [cut_none (fun ⟨c, h1, h2⟩ => hq (List.mem_map.2 ⟨c, List.mem_flatMap.2 ⟨p, hp, h1⟩, h2⟩))]
 have h1 : k ∉ (cellsP (ps.take j)).map Cel.key := fun hm => hk.2.2 k hm k (List.mem_append_left _ hcm) rfl
 have h2 : k ∉ (cellsP (ps.drop (j + 1))).map Cel.key := fun hm => hk.2.1.2.2 k hcm k hm rfl
 rw [List.set_eq_take_append_cons_drop, if_pos hj]
 conv => rhs; rw [hsplit]
 unfold cutP
 rw [List.map_append, List.map_cons]
 have e1 := none_of _ h1
 have e2 := none_of _ h2
 unfold cutP at e1 e2
 rw [e1, e2]
theorem cutP_none {k : List UInt8} {ps : List (Nat × List Cel)} (h : ∀ p, p ∈ ps → ¬ has k p.2) : cutP k ps = ps := by
 refine (List.map_congr_left (g := id) fun p hp => ?_).trans (List.map_id ps)
 show (p.1, cutK k p.2) = p
 rw [cut_none (h p hp)]
end Go.Proofs.YtijhamllnnilbaaGreatDoor.Ha
