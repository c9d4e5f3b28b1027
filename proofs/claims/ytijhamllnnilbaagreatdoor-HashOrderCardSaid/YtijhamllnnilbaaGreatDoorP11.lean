/- Lemmas of the claim, in their order:
- A part of the trie is another one. No program in sight.
- The pages of a bucket: a cell more, a key less. No program in sight.
- The contract of dir's New; what a page of entries reads as.
- The contract of blob.Put.
-/
import Derived.Test.YtijhamllnnilbaaGreatDoorP08
import Derived.Test.YtijhamllnnilbaaGreatDoorP10
set_option linter.unusedVariables false
set_option linter.unusedSimpArgs false
namespace Go.Proofs.YtijhamllnnilbaaGreatDoor.Ha
open Go.RowKit Go.Proofs.YtijhamllnnilbaaGreatDoor.Mem Go.Proofs.YtijhamllnnilbaaGreatDoor.Pg Go.Proofs.YtijhamllnnilbaaGreatDoor.Gr
set_option linter.unusedVariables false
set_option linter.unusedSimpArgs false
namespace Tri
def sub : Tri → Nat → Nat → Tri
 | t, _, 0 => t
 | leaf b, _, _ + 1 => leaf b
 | node z o, h, k + 1 => if h % 2 = 0 then z.sub (h / 2) k else o.sub (h / 2) k
def upd : Tri → Nat → Nat → Tri → Tri
 | _, _, 0, s => s
 | leaf b, _, _ + 1, _ => leaf b
 | node z o, h, k + 1, s => if h % 2 = 0 then node (z.upd (h / 2) k s) o else node z (o.upd (h / 2) k s)
theorem at_node (z o : Tri) (i : Nat) : (node z o).at' i = if i % 2 = 0 then z.at' (i / 2) else o.at' (i / 2) := rfl
theorem dep_node (z o : Tri) (i : Nat) : (node z o).dep i = if i % 2 = 0 then z.dep (i / 2) + 1 else o.dep (i / 2) + 1 := rfl
theorem height_node (z o : Tri) : (node z o).height = max z.height o.height + 1 := rfl
theorem sub_zero (t : Tri) (h : Nat) : t.sub h 0 = t := by cases t <;> rfl
theorem upd_zero (t : Tri) (h : Nat) (s : Tri) : t.upd h 0 s = s := by cases t <;> rfl
theorem mod_step (i h k : Nat) : i % 2 ^ (k + 1) = h % 2 ^ (k + 1) ↔ i % 2 = h % 2 ∧ i / 2 % 2 ^ k = h / 2 % 2 ^ k := by
 obtain ⟨a1, a2⟩ := half_mod i k
 obtain ⟨b1, b2⟩ := half_mod h k
 have h1 := Nat.div_add_mod (i % 2 ^ (k + 1)) 2
 have h2 := Nat.div_add_mod (h % 2 ^ (k + 1)) 2
 constructor
 · intro e
   rw [e] at a1 a2
   exact ⟨by omega, by omega⟩
 · rintro ⟨e1, e2⟩
   omega
theorem div_step (i k : Nat) : i / 2 / 2 ^ k = i / 2 ^ (k + 1) := by
 rw [Nat.div_div_eq_div_mul, Nat.pow_succ, Nat.mul_comm]
theorem at_upd (s : Tri) : ∀ (k : Nat) (t : Tri) (h i : Nat), k ≤ t.dep h → (t.upd h k s).at' i = if i % 2 ^ k = h % 2 ^ k then s.at' (i / 2 ^ k) else t.at' i
 | 0, t, h, i, _ => by rw [upd_zero]; simp [Nat.mod_one]
 | k + 1, leaf b, h, i, hk => by simp [dep] at hk
 | k + 1, node z o, h, i, hk => by
  rw [dep_node] at hk
  simp only [mod_step i h k, ← div_step]
  by_cases hh : h % 2 = 0
  · rw [if_pos hh] at hk
    unfold upd; rw [if_pos hh]
    rw [at_node, at_node]
    by_cases hi : i % 2 = 0
    · rw [if_pos hi, if_pos hi, at_upd s k z (h / 2) (i / 2) (by omega)]
      simp [hi, hh]
    · rw [if_neg hi, if_neg hi, if_neg (by omega)]
  · rw [if_neg hh] at hk
    unfold upd; rw [if_neg hh]
    rw [at_node, at_node]
    by_cases hi : i % 2 = 0
    · rw [if_pos hi, if_pos hi, if_neg (by omega)]
    · rw [if_neg hi, if_neg hi, at_upd s k o (h / 2) (i / 2) (by omega)]
      have e : i % 2 = h % 2 := by omega
      simp [e]
theorem dep_upd (s : Tri) : ∀ (k : Nat) (t : Tri) (h i : Nat), k ≤ t.dep h → (t.upd h k s).dep i = if i % 2 ^ k = h % 2 ^ k then k + s.dep (i / 2 ^ k) else t.dep i
 | 0, t, h, i, _ => by rw [upd_zero]; simp [Nat.mod_one]
 | k + 1, leaf b, h, i, hk => by simp [dep] at hk
 | k + 1, node z o, h, i, hk => by
  rw [dep_node] at hk
  simp only [mod_step i h k, ← div_step]
  by_cases hh : h % 2 = 0
  · rw [if_pos hh] at hk
    unfold upd; rw [if_pos hh]
    rw [dep_node, dep_node]
    by_cases hi : i % 2 = 0
    · rw [if_pos hi, if_pos hi, dep_upd s k z (h / 2) (i / 2) (by omega)]
      by_cases e : i / 2 % 2 ^ k = h / 2 % 2 ^ k
      · rw [if_pos e, if_pos ⟨by omega, e⟩]; omega
      · rw [if_neg e, if_neg (fun x => e x.2)]
    · rw [if_neg hi, if_neg hi, if_neg (by omega)]
  · rw [if_neg hh] at hk
    unfold upd; rw [if_neg hh]
    rw [dep_node, dep_node]
    by_cases hi : i % 2 = 0
    · rw [if_pos hi, if_pos hi, if_neg (by omega)]
    · rw [if_neg hi, if_neg hi, dep_upd s k o (h / 2) (i / 2) (by omega)]
      by_cases e : i / 2 % 2 ^ k = h / 2 % 2 ^ k
      · rw [if_pos e, if_pos ⟨by omega, e⟩]; omega
      · rw [if_neg e, if_neg (fun x => e x.2)]
theorem sub_dep : ∀ (t : Tri) (h : Nat), t.sub h (t.dep h) = leaf (t.at' h)
 | leaf b, h => rfl
 | node z o, h => by
  unfold dep at'
  by_cases hh : h % 2 = 0
  · rw [if_pos hh, if_pos hh]; unfold sub; rw [if_pos hh]; exact z.sub_dep _
  · rw [if_neg hh, if_neg hh]; unfold sub; rw [if_neg hh]; exact o.sub_dep _
theorem upd_sub : ∀ (k : Nat) (t : Tri) (h : Nat), t.upd h k (t.sub h k) = t
 | 0, t, h => by rw [upd_zero, sub_zero]
 | k + 1, leaf b, h => rfl
 | k + 1, node z o, h => by
  unfold upd sub
  by_cases hh : h % 2 = 0
  · rw [if_pos hh, if_pos hh, upd_sub k z]
  · rw [if_neg hh, if_neg hh, upd_sub k o]
theorem at_sub (t : Tri) (k h i : Nat) (hk : k ≤ t.dep h) (e : i % 2 ^ k = h % 2 ^ k) : t.at' i = (t.sub h k).at' (i / 2 ^ k) := by
 have := at_upd (t.sub h k) k t h i hk
 rw [upd_sub, if_pos e] at this
 exact this
theorem dep_sub (t : Tri) (k h i : Nat) (hk : k ≤ t.dep h) (e : i % 2 ^ k = h % 2 ^ k) : t.dep i = k + (t.sub h k).dep (i / 2 ^ k) := by
 have := dep_upd (t.sub h k) k t h i hk
 rw [upd_sub, if_pos e] at this
 exact this
theorem leaves_upd : ∀ (k : Nat) (t : Tri) (h : Nat), k ≤ t.dep h → ∃ L R, t.leaves = L ++ ((t.sub h k).leaves ++ R) ∧ ∀ s, (t.upd h k s).leaves = L ++ (s.leaves ++ R)
 | 0, t, h, _ => ⟨[], [], by rw [sub_zero]; simp, fun s => by rw [upd_zero]; simp⟩
 | k + 1, leaf b, h, hk => by simp [dep] at hk
 | k + 1, node z o, h, hk => by
  unfold dep at hk
  unfold sub
  by_cases hh : h % 2 = 0
  · rw [if_pos hh] at hk ⊢
    obtain ⟨L, R, e, f⟩ := leaves_upd k z (h / 2) (by omega)
    refine ⟨L, R ++ o.leaves, ?_, fun s => ?_⟩
    · show z.leaves ++ o.leaves = _
      rw [e]; simp
    · unfold upd; rw [if_pos hh]
      show (z.upd _ _ _).leaves ++ o.leaves = _
      rw [f]; simp
  · rw [if_neg hh] at hk ⊢
    obtain ⟨L, R, e, f⟩ := leaves_upd k o (h / 2) (by omega)
    refine ⟨z.leaves ++ L, R, ?_, fun s => ?_⟩
    · show z.leaves ++ o.leaves = _
      rw [e]; simp
    · unfold upd; rw [if_neg hh]
      show z.leaves ++ (o.upd _ _ _).leaves = _
      rw [f]; simp
theorem height_upd (s : Tri) : ∀ (k : Nat) (t : Tri) (h : Nat), (t.upd h k s).height ≤ max t.height (k + s.height)
 | 0, t, h => by rw [upd_zero]; omega
 | k + 1, leaf b, h => by unfold upd; omega
 | k + 1, node z o, h => by
  unfold upd
  by_cases hh : h % 2 = 0
  · rw [if_pos hh]
    have := height_upd s k z (h / 2)
    rw [height_node, height_node]
    omega
  · rw [if_neg hh]
    have := height_upd s k o (h / 2)
    rw [height_node, height_node]
    omega
theorem leaves_pow : ∀ t : Tri, t.leaves.length ≤ 2 ^ t.height
 | leaf _ => by simp [leaves, height]
 | node z o => by
  have h1 := z.leaves_pow
  have h2 := o.leaves_pow
  have h3 : 2 ^ z.height ≤ 2 ^ max z.height o.height := Nat.pow_le_pow_right (by omega) (by omega)
  have h4 : 2 ^ o.height ≤ 2 ^ max z.height o.height := Nat.pow_le_pow_right (by omega) (by omega)
  have e : 2 ^ (node z o).height = 2 * 2 ^ max z.height o.height := by (show 2 ^ (max z.height o.height + 1) = _; rw [Nat.pow_succ, Nat.mul_comm])
  rw [e]
  unfold leaves
  rw [List.length_append]
  omega
theorem height_at : ∀ t : Tri, ∃ i, i < 2 ^ t.height ∧ t.dep i = t.height
 | leaf _ => ⟨0, by simp [height], rfl⟩
 | node z o => by
  have e : 2 ^ (node z o).height = 2 * 2 ^ max z.height o.height := by (show 2 ^ (max z.height o.height + 1) = _; rw [Nat.pow_succ, Nat.mul_comm])
  have h3 : 2 ^ z.height ≤ 2 ^ max z.height o.height := Nat.pow_le_pow_right (by omega) (by omega)
  have h4 : 2 ^ o.height ≤ 2 ^ max z.height o.height := Nat.pow_le_pow_right (by omega) (by omega)
  rcases Nat.le_total o.height z.height with hle | hle
  · obtain ⟨i, h1, h2⟩ := z.height_at
    refine ⟨2 * i, by omega, ?_⟩
    unfold dep height
    rw [if_pos (by omega), show 2 * i / 2 = i by omega, h2]
    omega
  · obtain ⟨i, h1, h2⟩ := o.height_at
    refine ⟨2 * i + 1, by omega, ?_⟩
    unfold dep height
    rw [if_neg (by omega), show (2 * i + 1) / 2 = i by omega, h2]
    omega
end Tri
end Go.Proofs.YtijhamllnnilbaaGreatDoor.Ha
namespace Go.Proofs.YtijhamllnnilbaaGreatDoor.Ha
open Go.RowKit Go.Proofs.YtijhamllnnilbaaGreatDoor.Mem Go.Proofs.YtijhamllnnilbaaGreatDoor.Pg Go.Proofs.YtijhamllnnilbaaGreatDoor.Gr
set_option linter.unusedVariables false
set_option linter.unusedSimpArgs false

def cellsP (ps : List (Nat × List Cel)) : List Cel := ps.flatMap (·.2)
theorem Lf.cells_eq (b : Lf) : b.cells = cellsP b.pgs := rfl
theorem cellsP_append (a b : List (Nat × List Cel)) : cellsP (a ++ b) = cellsP a ++ cellsP b := by simp [cellsP]
theorem cellsP_cons (a : Nat × List Cel) (b : List (Nat × List Cel)) : cellsP (a :: b) = a.2 ++ cellsP b := by simp [cellsP]
def cutP (k : List UInt8) (ps : List (Nat × List Cel)) : List (Nat × List Cel) := ps.map fun p => (p.1, cutK k p.2)
theorem cutP_len (k : List UInt8) (ps : List (Nat × List Cel)) : (cutP k ps).length = ps.length := by simp [cutP]
theorem cutP_nums (k : List UInt8) (ps : List (Nat × List Cel)) : (cutP k ps).map (·.1) = ps.map (·.1) := by simp [cutP]
theorem cutK_append (k : List UInt8) (a b : List Cel) : cutK k (a ++ b) = cutK k a ++ cutK k b := by simp [cutK]
theorem cutP_cells (k : List UInt8) : ∀ ps : List (Nat × List Cel), cellsP (cutP k ps) = cutK k (cellsP ps)
 | [] => rfl
 | p :: ps => by
  show cellsP ((p.1, cutK k p.2) :: cutP k ps) = _
  rw [cellsP_cons, cellsP_cons, cutK_append, cutP_cells k ps]
theorem cutK_same (k : List UInt8) (l : List Cel) : cutK k (cutK k l) = cutK k l := cut_none (fun ⟨c, h, e⟩ => (mem_cut.1 h).2 e)
theorem has_cut (k : List UInt8) (l : List Cel) : ¬ has k (cutK k l) := fun ⟨c, h, e⟩ => (mem_cut.1 h).2 e
theorem ins_cut {c : Cel} : ∀ {l : List Cel}, Sorted l → ins c (cutK c.key l) = ins c l
 | [], _ => rfl
 | a :: l, hs => by
  have hgt : ∀ x, x ∈ l → a.key < x.key := hs.head
  by_cases ha : a.key < c.key
  · have hne : a.key ≠ c.key := fun e => by rw [e] at ha; exact list_lt_irrefl _ ha
    have e : cutK c.key (a :: l) = a :: cutK c.key l := List.filter_cons_of_pos (by simpa using hne)
    rw [e]
    unfold ins
    rw [if_pos ha, if_pos ha, ins_cut hs.tail]
  · by_cases he : a.key = c.key
    · have e : cutK c.key (a :: l) = cutK c.key l := List.filter_cons_of_neg (by simpa using he)
      have hn : ¬ has c.key l := fun ⟨x, hx, e⟩ => ha (by rw [← e]; exact hs.head x hx)
      rw [e, cut_none hn]
      conv => rhs; unfold ins
      rw [if_neg ha, if_pos he]
      rcases l with _ | ⟨b, l⟩
      · rfl
      · have hb := hgt b (List.mem_cons_self ..)
        have h1 : ¬ b.key < c.key := fun h => list_lt_irrefl _ (list_lt_trans (he ▸ hb) h)
        have h2 : b.key ≠ c.key := fun h => by rw [h, he] at hb; exact list_lt_irrefl _ hb
        unfold ins
        rw [if_neg h1, if_neg h2]
    · have hn : ¬ has c.key (a :: l) := fun ⟨x, hx, e⟩ => by
       rcases List.mem_cons.1 hx with h | h
       · subst h; exact he e
       · exact ha (by rw [← e]; exact hs.head x h)
      rw [cut_none hn]
theorem ins_perm {c : Cel} : ∀ {l : List Cel}, ¬ has c.key l → (ins c l).Perm (c :: l)
 | [], _ => List.Perm.refl _
 | a :: l, h => by
  unfold ins
  have hne : a.key ≠ c.key := fun e => h ⟨a, List.mem_cons_self .., e⟩
  by_cases ha : a.key < c.key
  · rw [if_pos ha]
    exact ((ins_perm (fun ⟨x, hx, e⟩ => h ⟨x, List.mem_cons_of_mem _ hx, e⟩)).cons a).trans (List.Perm.swap c a l)
  · rw [if_neg ha, if_neg hne]
theorem szs_perm {l m : List Cel} (h : l.Perm m) : szs l = szs m := (h.map Cel.sz).sum_nat
theorem szs_ins_new {c : Cel} {l : List Cel} (h : ¬ has c.key l) : szs (ins c l) = szs l + c.sz := by
 rw [szs_perm (ins_perm h)]; simp [szs]; omega
theorem cells_set {ps : List (Nat × List Cel)} {j : Nat} {n : Nat} {cs : List Cel} (h : ps[j]? = some (n, cs)) (cs' : List Cel) : ∃ A B, cellsP ps = A ++ (cs ++ B) ∧ cellsP (ps.set j (n, cs')) = A ++ (cs' ++ B) := by
 obtain ⟨hj, e⟩ := List.getElem?_eq_some_iff.1 h
 refine ⟨cellsP (ps.take j), cellsP (ps.drop (j + 1)), ?_, ?_⟩
 · conv => lhs; rw [← List.take_append_drop j ps]
   rw [cellsP_append, List.drop_eq_getElem_cons hj, cellsP_cons, e]
 · rw [List.set_eq_take_append_cons_drop, if_pos hj, cellsP_append, cellsP_cons]
theorem cells_ins {ps : List (Nat × List Cel)} {j : Nat} {n : Nat} {cs : List Cel} {x : Cel} (h : ps[j]? = some (n, cs)) (hx : ¬ has x.key cs) : (cellsP (ps.set j (n, ins x cs))).Perm (x :: cellsP ps) := by
 obtain ⟨A, B, h1, h2⟩ := cells_set h (ins x cs)
 rw [h1, h2]
 have e1 : (A ++ (ins x cs ++ B)).Perm (A ++ (x :: cs ++ B)) := List.Perm.append_left A ((ins_perm hx).append_right B)
 exact e1.trans (by simp)
theorem cutP_set {k : List UInt8} {ps : List (Nat × List Cel)} {j n : Nat} {cs : List Cel} (h : ps[j]? = some (n, cs)) (hk : ((cellsP ps).map Cel.key).Nodup) (hc : has k cs) : ps.set j (n, cutK k cs) = cutP k ps := by
 obtain ⟨hj, e⟩ := List.getElem?_eq_some_iff.1 h
 have hsplit : ps = ps.take j ++ (n, cs) :: ps.drop (j + 1) := by
  conv => lhs; rw [← List.take_append_drop j ps, List.drop_eq_getElem_cons hj, e]
 rw [hsplit, cellsP_append, cellsP_cons, List.map_append, List.map_append, List.nodup_append, List.nodup_append] at hk
 obtain ⟨c, hc1, hc2⟩ := hc
 have hcm : k ∈ cs.map Cel.key := List.mem_map.2 ⟨c, hc1, hc2⟩
 have none_of : ∀ qs : List (Nat × List Cel), (k ∉ (cellsP qs).map Cel.key) → cutP k qs = qs := by
  intro qs hq
  refine (List.map_congr_left (g := id) fun p hp => ?_).trans (List.map_id qs)
  show (p.1, cutK k p.2) = p
  rw [cut_none (fun ⟨c, h1, h2⟩ => hq (List.mem_map.2 ⟨c, List.mem_flatMap.2 ⟨p, hp, h1⟩, h2⟩))]
 have h1 : k ∉ (cellsP (ps.take j)).map Cel.key := fun hm => hk.2.2 k hm k (List.mem_append_left _ hcm) rfl
 have h2 : k ∉ (cellsP (ps.drop (j + 1))).map Cel.key := fun hm => hk.2.1.2.2 k hcm k hm rfl
 rw [List.set_eq_take_append_cons_drop, if_pos hj]
 conv => rhs; rw [hsplit]
 unfold cutP
 rw [List.map_append, List.map_cons]
 have e1 := none_of _ h1
 have e2 := none_of _ h2
 unfold cutP at e1 e2
 rw [e1, e2]
theorem cutP_none {k : List UInt8} {ps : List (Nat × List Cel)} (h : ∀ p, p ∈ ps → ¬ has k p.2) : cutP k ps = ps := by
 refine (List.map_congr_left (g := id) fun p hp => ?_).trans (List.map_id ps)
 show (p.1, cutK k p.2) = p
 rw [cut_none (h p hp)]
end Go.Proofs.YtijhamllnnilbaaGreatDoor.Ha
namespace Go.Proofs.YtijhamllnnilbaaGreatDoor.Dr
open Go.RowKit Go.Proofs.YtijhamllnnilbaaGreatDoor.Mem Go.Proofs.YtijhamllnnilbaaGreatDoor.Pg

theorem nums_get (xs : List Int) : ∀ i, i < xs.length → (nums xs).getD (2 * i) 0 = 0 ∧ (nums xs).getD (2 * i + 1) 0 = xs.getD i 0 := by
 induction xs with
 | nil => intro i h; simp at h
 | cons x xs ih =>
  intro i h
  cases i with
  | zero => exact ⟨rfl, rfl⟩
  | succ i =>
   have := ih i (by simpa using h)
   rw [show 2 * (i + 1) = 2 * i + 2 from by omega]
   exact this
theorem ent_body (xs : List Int) (hm : ∀ y ∈ xs, mayP y) (i : Nat) (h : i < xs.length) : ent (bodyOf xs) i = xs.getD i 0 := by
 have hl : (nums xs).length = 2 * xs.length := nums_len xs
 have hg : ∀ j, j < 2 * xs.length → bt (bodyOf xs) j = (UInt8.ofNat ((nums xs).getD j 0).toNat).toNat := fun j hj => by
  unfold bt bodyOf encL
  rw [List.getD_eq_getElem?_getD, List.getElem?_append_left (by rw [List.length_map]; omega), List.getElem?_map, List.getElem?_eq_getElem (by omega), List.getD_eq_getElem?_getD, List.getElem?_eq_getElem (by omega)]
  rfl
 obtain ⟨h1, h2⟩ := nums_get xs i h
 have hy : mayP (xs.getD i 0) := hm _ (List.mem_iff_getElem?.2 ⟨i, by rw [List.getD_eq_getElem?_getD, List.getElem?_eq_getElem h, Option.getD_some]⟩)
 obtain ⟨y1, y2⟩ : 2 ≤ xs.getD i 0 ∧ xs.getD i 0 < 64 := hy
 unfold ent
 rw [hg _ (by omega), hg _ (by omega), h1, h2]
 generalize xs.getD i 0 = y at *
 obtain ⟨n, rfl⟩ := Int.eq_ofNat_of_zero_le (show 0 ≤ y from by omega)
 have : (UInt8.ofNat ((n : Int).toNat)).toNat = n := by
  rw [Int.toNat_natCast, UInt8.toNat_ofNat']
  omega
 rw [this]
 simp
theorem ents_body (xs : List Int) (hm : ∀ y ∈ xs, mayP y) : ents (bodyOf xs) xs.length = xs := by
 refine List.ext_getElem (by simp [ents]) fun i h1 h2 => ?_
 have := ent_body xs hm i h2
 simp only [ents, List.getElem_map, List.getElem_range]
 rw [this, List.getD_eq_getElem?_getD, List.getElem?_eq_getElem h2, Option.getD_some]
theorem body_len (xs : List Int) (h : xs.length ≤ 120) : (bodyOf xs).length = 240 := by
 rw [bodyOf, List.length_append, encL_len, zs, List.length_replicate]
 omega
theorem isDir_body (xs : List Int) (hm : ∀ y ∈ xs, mayP y) (d : Nat) (hd : d ≤ 5) (hn : xs.length = 2 ^ d) : IsDir 1 d (bodyOf xs) xs.length := by
 have h32 : xs.length ≤ 32 := by
  rw [hn]
  exact (pow_small d hd).2.2
 refine ⟨rfl, by omega, by omega, body_len xs (by omega), by rw [hn, Int.toNat_natCast], fun i hi => ?_, ?_⟩
 · rw [ent_body xs hm i hi]
   exact hm _ (List.mem_iff_getElem?.2 ⟨i, by rw [List.getD_eq_getElem?_getD, List.getElem?_eq_getElem hi, Option.getD_some]⟩)
 · intro c hc
   rw [bodyOf, List.drop_append_of_le_length (by rw [encL_len]; omega), List.drop_of_length_le (by rw [encL_len]; omega), List.nil_append] at hc
   exact (List.mem_replicate.1 hc).2

set_option maxRecDepth 100000 in
set_option maxHeartbeats 2000000 in
theorem new_yes (n : Int) (w : World) (hn : mayP n) :
 Calls Tryz.prog 83 #[.int .i64 n] w fun e w' => e = .returned (.tuple #[.agg #[.int .i64 1, .int .i64 0, .int .i64 0, .string (str (bodyOf [n]))], .bool true]) ∧ Below w.heap.size w w' := by
 have hma := fun w => may_any n w
 rw [show mayB n = true from decide_eq_true hn] at hma
 have hem := fun w => empty_any 1 0 w
 have hpa := fun W g cap (hz : Ints W (some ⟨g, 0, none⟩) 1 [n]) => page_any 1 0 0 0 0 (str (zs 240)) (some ⟨g, 0, none⟩) 1 cap [n] W hz (fun y hy => by simp at hy; subst hy; exact hn) (by omega) (by omega)
 obtain ⟨Y, hY⟩ : ∃ Y, Y = str (bodyOf [n]) := ⟨_, rfl⟩
 obtain ⟨Z, hZ⟩ : ∃ Z, Z = str (zs 240) := ⟨_, rfl⟩
 simp only [← hZ, ← hY] at hem hpa ⊢
 clear hZ hY
 have Hpa := Lib.hid hpa
 clear hpa
 go_enter Tryz.func83, Tryz.ntmps83
 go_wp2_with fail
 with_reducible refine (hma _).mono ?_
 rintro e w1 ⟨rfl, hw⟩
 subst hw
 clear hma
 go_wp2_with fail
 with_reducible refine (hem _).mono ?_
 rintro e w2 ⟨rfl, hb2⟩
 clear hem
 have hint : Ints w2 (some ⟨w.heap.size + 1, 0, none⟩) 1 [n] := by
  refine ⟨rfl, by omega, fun _ => ⟨w.heap.size + 1, 0, rfl, ?_, fun j hj => ?_⟩⟩
  · have := hb2.size
    simp at this
    omega
  · obtain rfl : j = 0 := by omega
    exact blk_cell (blk2_below hb2).2 0
 have hres2 := (blk2_below hb2).1
 have hbel2 : Below w.heap.size w w2 := below_box (below_box hb2)
 clear hb2
 go_wp2_with fail
 with_reducible refine (Hpa.out _ _ _ hint).mono ?_
 rintro e w3 ⟨rfl, hb3⟩
 have hres3 := blk_keep hres2 hb3
 have hbel3 := below_base hbel2 hbel2.size hb3
 have hc3 := blk_cell hres3
 have hf3 := blk_free hres3
 have hz3 := lt_of_block hres3
 clear hb3 hres2 hbel2 hint
 go_wp2
 have hW : (set4 w3 (w.heap.size) (.int .i64 1) (.int .i64 0) (.int .i64 0) (.string Y)).heap[w.heap.size]? = _ := set4_same hres3 (.int .i64 1) (.int .i64 0) (.int .i64 0) (.string Y)
 have hB := below_set4 hbel3 (Nat.le_refl _) (.int .i64 1) (.int .i64 0) (.int .i64 0) (.string Y)
 change bodyPost _ _ _ _ _ (set4 w3 (w.heap.size) (.int .i64 1) (.int .i64 0) (.int .i64 0) (.string Y))
 generalize set4 w3 (w.heap.size) (.int .i64 1) (.int .i64 0) (.int .i64 0) (.string Y) = WF at *
 have j0 := blk_cell hW 0
 have j1 := blk_cell hW 1
 have j2 := blk_cell hW 2
 have j3 := blk_cell hW 3
 clear hW hc3 hf3
 refine bodyPost_ret (v := .tuple #[.agg #[.int .i64 1, .int .i64 0, .int .i64 0, .string Y], .bool true]) ?_ rfl (⟨rfl, hB⟩)
 simp [results, Tryz.results83, go_sem, j0, j1, j2, j3]
end Go.Proofs.YtijhamllnnilbaaGreatDoor.Dr
namespace Go.Proofs.YtijhamllnnilbaaGreatDoor.Bl
open Go.RowKit Go.Proofs.YtijhamllnnilbaaGreatDoor.Mem Go.Proofs.YtijhamllnnilbaaGreatDoor.Pg

def part (l : List UInt8) (i : Nat) : List UInt8 := (l.drop (200 * i)).take 200
def body (l : List UInt8) (i : Nat) : List UInt8 := part l i ++ zs (240 - (part l i).length)
def nextOf (at' : List Int) (i : Nat) : Int := if i + 1 < at'.length then at'.getD (i + 1) 0 else 0
def pgRow (l : List UInt8) (at' : List Int) (i : Nat) : List Value := [.int .i64 5, .int .i64 0, .int .i64 (nextOf at' i), .string (str (body l i))]
def rows (l : List UInt8) (at' : List Int) : Nat → List Value
 | 0 => []
 | n + 1 => rows l at' n ++ pgRow l at' n
theorem rows_length (l : List UInt8) (at' : List Int) (n : Nat) : (rows l at' n).length = n * 4 := by
 induction n with
 | zero => rfl
 | succ n ih => rw [rows, List.length_append, ih]; simp [pgRow]; omega
theorem info_page : (Tryz.prog.info? 113).map (fun i => (i.zero, i.size, i.bytes)) = some (some (.agg #[.int .i64 0, .int .i64 0, .int .i64 0, .string ⟨#[]⟩]), 4, 40) := by kernel_rfl
theorem part_len (l : List UInt8) (j : Nat) : (part l j).length = min (l.length - 200 * j) 200 := by simp [part]; omega
theorem body_code {l : List UInt8} {j c : Nat} {sv Z : ByteArray} (hs : sv = str (l.drop (200 * j))) (hZ : Z = str (zs 240)) (hc : c = min sv.size 200) : sv.extract 0 c ++ Z.extract c 240 = str (body l j) := by
 subst hs hZ
 have hlen := part_len l j
 rw [str_size, List.length_drop] at hc
 have h1 : (l.drop (200 * j)).take c = part l j := by
  rw [part, hc]
  rcases Nat.le_total (l.length - 200 * j) 200 with h | h
  · rw [Nat.min_eq_left h, List.take_of_length_le (by simp), List.take_of_length_le (by simp; omega)]
  · rw [Nat.min_eq_right h]
 have h2 : ((zs 240).drop c).take (240 - c) = zs (240 - (part l j).length) := by
  rw [hlen, ← hc, zs, zs, List.drop_replicate, List.take_replicate, Nat.min_self]
 apply ByteArray.ext
 apply Array.toList_inj.1
 simp only [ByteArray.data_append, ByteArray.data_extract, Array.toList_append, Array.toList_extract, List.extract, body, Nat.sub_zero, List.drop_zero]
 rw [h1, h2]
theorem rest_code {l : List UInt8} {j c : Nat} {sv : ByteArray} (hs : sv = str (l.drop (200 * j))) (hc : c = min sv.size 200) : sv.extract c sv.size = str (l.drop (200 * (j + 1))) := by
 subst hs
 rw [str_size, List.length_drop] at hc
 apply ByteArray.ext
 apply Array.toList_inj.1
 simp only [ByteArray.data_extract, Array.toList_extract, List.extract, str_size, List.length_drop]
 rw [List.take_of_length_le (by rw [List.length_drop, List.length_drop]; omega), List.drop_drop]
 rcases Nat.le_total (l.length - 200 * j) 200 with h | h
 · rw [List.drop_eq_nil_of_le (by omega), List.drop_eq_nil_of_le (by omega)]
 · rw [show 200 * j + c = 200 * (j + 1) by omega]
def OkAt (at' : List Int) (i : Nat) : Prop := 2 ≤ at'.getD i 0 ∧ at'.getD i 0 < 64 ∧ (at'.take i).contains (at'.getD i 0) = false
def PutOk (l : List UInt8) (at' : List Int) : Prop := at'.length ≠ 0 ∧ at'.length = pgN l.length ∧ ∀ i, i < at'.length → OkAt at' i
def PutPost (w : World) (l : List UInt8) (at' : List Int) (e : Ending) (w' : World) : Prop :=
 (PutOk l at' ∧ ∃ v, e = .returned (.tuple #[v, .bool true]) ∧ w'.ownsRow w.heap.size 113 4 v at'.length (rows l at' at'.length) ∧ Below w.heap.size w w') ∨
 (¬ PutOk l at' ∧ e = .returned (.tuple #[.slice none 0 0, .bool false]) ∧ Below w.heap.size w w')

set_option maxRecDepth 100000 in
set_option maxHeartbeats 4000000 in
theorem put_any (l : List UInt8) (A : Option Addr) (n cap : Nat) (at' : List Int) (w : World) (hl : l.length ≤ 1000)
 (hz : Ints w A n at') (hcap : n ≤ cap) : Calls Tryz.prog 74 #[.string (str l), .slice A n cap] w (PutPost w l at') := by
 have hpg := fun w => blobPages_any l.length w (by omega)
 have hss := str_size l
 have hn : at'.length = n := hz.1
 obtain ⟨i0, hi, hz0, hz1, hz2⟩ := info_parts info_page
 by_cases h0 : n = 0
 · have hno : ¬ PutOk l at' := fun h => h.1 (by omega)
   have d0 : ((n : Int) == 0) = true := by simp; omega
   have Hno := Lib.hid hno
   clear hno hpg hz
   generalize str l = s at hss ⊢
   subst h0
   go_enter Tryz.func74, Tryz.ntmps74
   go_wp2
   go_ret2
   exact .inr ⟨Hno.out, rfl, Below.refl _ _⟩
 · have d0 : ((n : Int) == 0) = false := by simp; omega
   by_cases h1 : n = pgN l.length
   · have d1 : ((n : Int) != (pgN l.length : Int)) = false := by simp; omega
     have hn2 : n ≤ 2 := by have := pgN_le l.length; omega
     have H1 := Lib.hid h1
     have H0 := Lib.hid h0
     obtain ⟨P, hP⟩ : ∃ P, P = pgN l.length := ⟨_, rfl⟩
     rw [← hP] at d1 hpg
     have HP := Lib.hid hP
     obtain ⟨b, off, rfl, hbl, hcell⟩ := hz.2.2 (by omega)
     have Hcell := Lib.hid hcell
     have Hn := Lib.hid hn
     clear hP h1 h0 hz hcell hn
     obtain ⟨s, hs⟩ : ∃ s, s = str l := ⟨_, rfl⟩
     rw [← hs] at hss ⊢
     have Hs := Lib.hid hs
     clear hs
     go_enter Tryz.func74, Tryz.ntmps74
     go_wp2_with fail
     refine (hpg _).mono ?_
     rintro e w1 ⟨rfl, rfl⟩
     clear hpg
     go_wp2_with fail
     go_loopw [0, 6, 24] (fun v o i wr => ∃ (j : Nat) (sv : ByteArray), i = .int .i64 j ∧ j ≤ n ∧ v = .string sv ∧ Hid (sv = str (l.drop (200 * j))) ∧ wr.ownsRow w1.heap.size 113 4 o j (rows l at' j) ∧ Below w1.heap.size w1 wr ∧ Hid (∀ i, i < j → OkAt at' i)) (fun _ _ i _ => n - (intOf i).toNat)
     case atStart => exact ⟨0, s, rfl, Nat.zero_le _, rfl, Hs, ⟨rfl, .inl ⟨rfl, rfl⟩⟩, Below.refl _ _, Lib.hid (fun i hi => absurd hi (by omega))⟩
     case round =>
      obtain ⟨j, sv, rfl, hj, rfl, hsv, hown, hbel, hoks⟩ := hrel
      by_cases hlt : j < n
      · have hx := (hbel.cell (p := ⟨b, off + j, none⟩) hbl).trans (Hcell.out j hlt)
        obtain ⟨g, hg⟩ : ∃ g, g = at'.getD j 0 := ⟨_, rfl⟩
        rw [← hg] at hx
        have Hg := Lib.hid hg
        clear hg
        have hcon := fun W (hW : Below w1.heap.size w1 W) => Tryz.slices_Contains_int b off j cap at' g W (by have := Hn.out; omega) (by omega) (fun i hi => (hW.cell (p := ⟨b, off + i, none⟩) hbl).trans (Hcell.out i (by have := Hn.out; omega)))
        by_cases h2 : g < 2
        · have d2 : decide (g < 2) = true := by simpa using h2
          clear hcon
          have hno : ¬ PutOk l at' := fun h => by have := (h.2.2 j (by have := Hn.out; omega)).1; rw [← Hg.out] at this; omega
          have Hno := Lib.hid hno
          clear hno
          go_wp2
          go_ret2
          exact .inr ⟨Hno.out, rfl, hbel⟩
        · have d2 : decide (g < 2) = false := by simpa using h2
          by_cases h64 : 64 ≤ g
          · have d64 : decide (64 ≤ g) = true := by simpa using h64
            clear hcon
            have hno : ¬ PutOk l at' := fun h => by have := (h.2.2 j (by have := Hn.out; omega)).2.1; rw [← Hg.out] at this; omega
            have Hno := Lib.hid hno
            clear hno
            go_wp2
            go_ret2
            exact .inr ⟨Hno.out, rfl, hbel⟩
          · have d64 : decide (64 ≤ g) = false := by simpa using h64
            rcases hct : (at'.take j).contains g with _ | _
            · rw [hct] at hcon
              have hokj : OkAt at' j := ⟨by rw [← Hg.out]; omega, by rw [← Hg.out]; omega, by rw [← Hg.out]; exact hct⟩
              have Hokj := Lib.hid hokj
              clear hokj hct
              have hem := fun w => empty_any 5 0 w
              obtain ⟨Z, hZ⟩ : ∃ Z, Z = str (zs 240) := ⟨_, rfl⟩
              have hZs : Z.size = 240 := by rw [hZ, str_size]; exact List.length_replicate
              rw [← hZ] at hem
              have HZ := Lib.hid hZ
              obtain ⟨c, hc⟩ : ∃ c, c = min sv.size 200 := ⟨_, rfl⟩
              have hmin : min (sv.size : Int) 200 = (c : Int) := by omega
              have hc1 : min c sv.size = c := by omega
              have hc2 : c ≤ sv.size := by omega
              have hc3 : (c : Int) ≤ (sv.size : Int) := by omega
              have hc4 : c ≤ 200 := by omega
              have Hc := Lib.hid hc
              clear hZ hc
              have hjn : (j : Int) ≤ (n : Int) := by omega
              go_wp2_with fail
              refine (hcon _ hbel).mono ?_
              rintro e w2 ⟨rfl, rfl⟩
              clear hcon
              go_wp2_with fail
              refine (hem _).mono ?_
              rintro e w3 ⟨rfl, hb3⟩
              have hbw3 := below_tr hbel hb3
              have hown3 := own_below hown hb3
              clear hem hb3 hown hbel hx
              by_cases hnx : j + 1 < n
              · have dn : decide ((j : Int) + 1 < (n : Int)) = true := by simp; omega
                have hxn := (hbw3.cell (p := ⟨b, off + (j + 1), none⟩) hbl).trans (Hcell.out (j + 1) hnx)
                have hbl3 : b < w3.heap.size := Nat.lt_of_lt_of_le hbl hbw3.size
                generalize hgn : at'.getD (j + 1) 0 = gn at hxn
                have hnext : nextOf at' j = gn := by unfold nextOf; rw [if_pos (by have := Hn.out; omega), hgn]
                have Hnext := Lib.hid hnext
                clear hgn hnext
                have hbody : sv.extract 0 c ++ Z.extract c 240 = str (body l j) := body_code hsv.out HZ.out Hc.out
                have hrest : sv.extract c sv.size = str (l.drop (200 * (j + 1))) := rest_code hsv.out Hc.out
                generalize hT : sv.extract 0 c ++ Z.extract c 240 = T at hbody
                have HB := Lib.hid hbody
                have HR := Lib.hid hrest
                clear hbody hrest
                go_wp2_with (at_builtin; refine wpList_append_own _ rfl (.tmp 71) (.tmp 73) _ rfl w1.heap.size 113 i0 (.agg #[.int .i64 0, .int .i64 0, .int .i64 0, .string ⟨#[]⟩]) 4 40 Tryz.underlying68 hi hz0 hz1 hz2 rfl (by decide) _ j (rows l at' j) rfl ((hown3.alloc _).alloc _) ⟨w3.heap.size + 1, 0, none⟩ 1 1 [.int .i64 5, .int .i64 0, .int .i64 gn, .string T] rfl rfl (cells_new _ _ (by simp) _ _) (by intro u hu; simp at hu; rcases hu with rfl | rfl | rfl | rfl <;> rfl) (by unfold maxLen; omega) (by omega) (by have := hbw3.size; simp; omega) ?_; intro v' w4 hown4 hgrow _)
                go_roundw
                case rel =>
                 refine ⟨j + 1, _, by go_num, by omega, rfl, HR, ?_, ?_, Lib.hid (fun i hi => ?_)⟩
                 · rw [rows, pgRow, ← HB.out, Hnext.out]
                   exact hown4
                 · exact below_grown (below_al (below_al hbw3 _) _) (by have := hbw3.size; simp; omega) hown3 hgrow
                 · rcases Nat.lt_or_eq_of_le (Nat.le_of_lt_succ hi) with h | h
                   · exact hoks.out i h
                   · rw [h]; exact Hokj.out
                case measure => simp [intOf]; omega
              · have dn : decide ((j : Int) + 1 < (n : Int)) = false := by simp; omega
                have hnext : nextOf at' j = 0 := by unfold nextOf; rw [if_neg (by have := Hn.out; omega)]
                have Hnext := Lib.hid hnext
                clear hnext
                have hbody : sv.extract 0 c ++ Z.extract c 240 = str (body l j) := body_code hsv.out HZ.out Hc.out
                have hrest : sv.extract c sv.size = str (l.drop (200 * (j + 1))) := rest_code hsv.out Hc.out
                generalize hT : sv.extract 0 c ++ Z.extract c 240 = T at hbody
                have HB := Lib.hid hbody
                have HR := Lib.hid hrest
                clear hbody hrest
                go_wp2_with (at_builtin; refine wpList_append_own _ rfl (.tmp 71) (.tmp 73) _ rfl w1.heap.size 113 i0 (.agg #[.int .i64 0, .int .i64 0, .int .i64 0, .string ⟨#[]⟩]) 4 40 Tryz.underlying68 hi hz0 hz1 hz2 rfl (by decide) _ j (rows l at' j) rfl ((hown3.alloc _).alloc _) ⟨w3.heap.size + 1, 0, none⟩ 1 1 [.int .i64 5, .int .i64 0, .int .i64 0, .string T] rfl rfl (cells_new _ _ (by simp) _ _) (by intro u hu; simp at hu; rcases hu with rfl | rfl | rfl | rfl <;> rfl) (by unfold maxLen; omega) (by omega) (by have := hbw3.size; simp; omega) ?_; intro v' w4 hown4 hgrow _)
                go_roundw
                case rel =>
                 refine ⟨j + 1, _, by go_num, by omega, rfl, HR, ?_, ?_, Lib.hid (fun i hi => ?_)⟩
                 · rw [rows, pgRow, ← HB.out, Hnext.out]
                   exact hown4
                 · exact below_grown (below_al (below_al hbw3 _) _) (by have := hbw3.size; simp; omega) hown3 hgrow
                 · rcases Nat.lt_or_eq_of_le (Nat.le_of_lt_succ hi) with h | h
                   · exact hoks.out i h
                   · rw [h]; exact Hokj.out
                case measure => simp [intOf]; omega
            · rw [hct] at hcon
              have hno : ¬ PutOk l at' := fun h => by have := (h.2.2 j (by have := Hn.out; omega)).2.2; rw [← Hg.out, hct] at this; exact absurd this (by decide)
              have Hno := Lib.hid hno
              have hjn : (j : Int) ≤ (n : Int) := by omega
              clear hno hct
              go_wp2_with fail
              refine (hcon _ hbel).mono ?_
              rintro e w2 ⟨rfl, rfl⟩
              clear hcon
              go_wp2
              go_ret2
              exact .inr ⟨Hno.out, rfl, hbel⟩
      · obtain rfl : j = n := by omega
        have hok : PutOk l at' := ⟨by have := Hn.out; have := H0.out; omega, by have := Hn.out; have := H1.out; omega, fun i hi => hoks.out i (by have := Hn.out; omega)⟩
        have Hok := Lib.hid hok
        clear hok
        go_wp2
        go_ret2
        exact .inl ⟨Hok.out, _, rfl, by rw [Hn.out]; exact hown, hbel⟩
   · have hno : ¬ PutOk l at' := fun h => h1 (by have := h.2.1; omega)
     have d1 : ((n : Int) != (pgN l.length : Int)) = true := by simp; omega
     have Hno := Lib.hid hno
     have Hd := Lib.hid h1
     obtain ⟨P, hP⟩ : ∃ P, P = pgN l.length := ⟨_, rfl⟩
     rw [← hP] at d1 hpg
     clear hno hz hP h1
     generalize str l = s at hss ⊢
     go_enter Tryz.func74, Tryz.ntmps74
     go_wp2_with fail
     refine (hpg _).mono ?_
     rintro e w1 ⟨rfl, rfl⟩
     clear hpg
     go_wp2
     go_ret2
     exact .inr ⟨Hno.out, rfl, Below.refl _ _⟩
end Go.Proofs.YtijhamllnnilbaaGreatDoor.Bl
