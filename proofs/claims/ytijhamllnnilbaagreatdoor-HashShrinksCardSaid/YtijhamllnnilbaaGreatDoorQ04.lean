/- Lemmas of the claim, in their order:
- Cells by their keys: where a key is, a cell more, a cell less. No program in sight.
- Chapter 10 in plain Lean: the entries of a directory page. No program in sight.
- The contract of dir's may.
- The contracts of space.Used, space.Give.
- The contract of space.Give.
-/
import Derived.Test.YtijhamllnnilbaaGreatDoorQ02
import Derived.Test.YtijhamllnnilbaaGreatDoorQ01
set_option linter.unusedVariables false
set_option linter.unusedSimpArgs false
namespace Go.Proofs.YtijhamllnnilbaaGreatDoor.Ha
open Go.RowKit Go.Proofs.YtijhamllnnilbaaGreatDoor.Mem Go.Proofs.YtijhamllnnilbaaGreatDoor.Pg Go.Proofs.YtijhamllnnilbaaGreatDoor.Gr
set_option linter.unusedVariables false
set_option linter.unusedSimpArgs false

def Sorted (l : List Cel) : Prop := l.Pairwise (fun a b => a.key < b.key)
def pos (k : List UInt8) (l : List Cel) : Nat := l.countP (fun c => decide (c.key < k))
def has (k : List UInt8) (l : List Cel) : Prop := ∃ c, c ∈ l ∧ c.key = k
def ins (c : Cel) : List Cel → List Cel
 | [] => [c]
 | a :: l => if a.key < c.key then a :: ins c l else if a.key = c.key then c :: l else c :: a :: l
def cutK (k : List UInt8) (l : List Cel) : List Cel := l.filter (fun c => decide (c.key ≠ k))
theorem pos_le (k : List UInt8) (l : List Cel) : pos k l ≤ l.length := List.countP_le_length
theorem pos_cons_lt {k : List UInt8} {a : Cel} {l : List Cel} (h : a.key < k) : pos k (a :: l) = pos k l + 1 := by
 unfold pos; rw [List.countP_cons_of_pos (by simpa using h)]
theorem Sorted.tail {a : Cel} {l : List Cel} (h : Sorted (a :: l)) : Sorted l := (List.pairwise_cons.1 h).2
theorem Sorted.head {a : Cel} {l : List Cel} (h : Sorted (a :: l)) : ∀ c, c ∈ l → a.key < c.key := (List.pairwise_cons.1 h).1
theorem pos_cons_ge {k : List UInt8} {a : Cel} {l : List Cel} (hs : Sorted (a :: l)) (h : ¬ a.key < k) : pos k (a :: l) = 0 := by
 unfold pos
 rw [List.countP_eq_zero]
 intro c hc
 rw [decide_eq_true_eq]
 intro hck
 rcases List.mem_cons.1 hc with e | e
 · subst e; exact h hck
 · exact h (list_lt_trans (hs.head c e) hck)
theorem pos_lt {k : List UInt8} : ∀ {l : List Cel}, Sorted l → ∀ i (h : i < l.length), l[i].key < k ↔ i < pos k l
 | [], _, i, h => by simp at h
 | a :: l, hs, i, h => by
  by_cases ha : a.key < k
  · rw [pos_cons_lt ha]
    rcases i with _ | i
    · simp [ha]
    · simpa using pos_lt hs.tail i (by simpa using h)
  · rw [pos_cons_ge hs ha]
    constructor
    · intro hk
      exfalso
      rcases i with _ | i
      · exact ha hk
      · exact ha (list_lt_trans (hs.head _ (List.getElem_mem (by simpa using h))) hk)
    · intro h; omega
theorem has_iff {k : List UInt8} : ∀ {l : List Cel}, Sorted l → (has k l ↔ ∃ h : pos k l < l.length, (l[pos k l]).key = k)
 | [], _ => by simp [has]
 | a :: l, hs => by
  by_cases ha : a.key < k
  · have h1 := pos_cons_lt (l := l) ha
    have ih := has_iff (k := k) hs.tail
    have hne : a.key ≠ k := fun e => by rw [e] at ha; exact list_lt_irrefl _ ha
    have h2 : has k (a :: l) ↔ has k l := by
     constructor
     · rintro ⟨c, hc, e⟩
       rcases List.mem_cons.1 hc with h | h
       · subst h; exact absurd e hne
       · exact ⟨c, h, e⟩
     · rintro ⟨c, hc, e⟩
       exact ⟨c, List.mem_cons_of_mem _ hc, e⟩
    rw [h2, ih]
    constructor
    · rintro ⟨h, e⟩
      refine ⟨by rw [h1]; simpa using h, ?_⟩
      simp only [h1, List.getElem_cons_succ]
      exact e
    · rintro ⟨h, e⟩
      refine ⟨by rw [h1] at h; simpa using h, ?_⟩
      simp only [h1, List.getElem_cons_succ] at e
      exact e
  · have h1 := pos_cons_ge hs ha
    constructor
    · rintro ⟨c, hc, e⟩
      refine ⟨by rw [h1]; simp, ?_⟩
      simp only [h1, List.getElem_cons_zero]
      rcases List.mem_cons.1 hc with h | h
      · subst h; exact e
      · exact absurd (by rw [← e]; exact hs.head c h) ha
    · rintro ⟨h, e⟩
      simp only [h1, List.getElem_cons_zero] at e
      exact ⟨a, List.mem_cons_self .., e⟩
theorem ins_has {c : Cel} : ∀ {l : List Cel}, Sorted l → has c.key l → ins c l = l.set (pos c.key l) c
 | [], _, h => by obtain ⟨_, h, _⟩ := h; cases h
 | a :: l, hs, h => by
  unfold ins
  by_cases ha : a.key < c.key
  · have hne : a.key ≠ c.key := fun e => by rw [e] at ha; exact list_lt_irrefl _ ha
    have h2 : has c.key l := by
     obtain ⟨x, hx, e⟩ := h
     rcases List.mem_cons.1 hx with h | h
     · subst h; exact absurd e hne
     · exact ⟨x, h, e⟩
    rw [if_pos ha, pos_cons_lt ha, List.set_cons_succ, ins_has hs.tail h2]
  · rw [if_neg ha, pos_cons_ge hs ha, List.set_cons_zero, if_pos]
    obtain ⟨x, hx, e⟩ := h
    rcases List.mem_cons.1 hx with h | h
    · subst h; exact e
    · exact absurd (by rw [← e]; exact hs.head x h) ha
theorem ins_new {c : Cel} : ∀ {l : List Cel}, Sorted l → ¬ has c.key l → ins c l = l.take (pos c.key l) ++ c :: l.drop (pos c.key l)
 | [], _, h => rfl
 | a :: l, hs, h => by
  unfold ins
  have hne : a.key ≠ c.key := fun e => h ⟨a, List.mem_cons_self .., e⟩
  by_cases ha : a.key < c.key
  · rw [if_pos ha, pos_cons_lt ha, ins_new hs.tail (fun ⟨x, hx, e⟩ => h ⟨x, List.mem_cons_of_mem _ hx, e⟩)]
    rfl
  · rw [if_neg ha, if_neg hne, pos_cons_ge hs ha]
    rfl
theorem mem_ins {c x : Cel} : ∀ {l : List Cel}, Sorted l → (x ∈ ins c l ↔ x = c ∨ (x ∈ l ∧ x.key ≠ c.key))
 | [], _ => by simp [ins]
 | a :: l, hs => by
  unfold ins
  by_cases ha : a.key < c.key
  · have hne : a.key ≠ c.key := fun e => by rw [e] at ha; exact list_lt_irrefl _ ha
    rw [if_pos ha, List.mem_cons, mem_ins hs.tail, List.mem_cons]
    constructor
    · rintro (rfl | h | h)
      · exact .inr ⟨.inl rfl, hne⟩
      · exact .inl h
      · exact .inr ⟨.inr h.1, h.2⟩
    · rintro (h | ⟨rfl | h, h2⟩)
      · exact .inr (.inl h)
      · exact .inl rfl
      · exact .inr (.inr ⟨h, h2⟩)
  · rw [if_neg ha]
    have hgt : ∀ y, y ∈ l → y.key ≠ c.key := fun y hy e => ha (by rw [← e]; exact hs.head y hy)
    by_cases he : a.key = c.key
    · rw [if_pos he, List.mem_cons, List.mem_cons]
      constructor
      · rintro (h | h)
        · exact .inl h
        · exact .inr ⟨.inr h, hgt x h⟩
      · rintro (h | ⟨rfl | h, h2⟩)
        · exact .inl h
        · exact absurd he h2
        · exact .inr h
    · rw [if_neg he, List.mem_cons, List.mem_cons]
      constructor
      · rintro (h | rfl | h)
        · exact .inl h
        · exact .inr ⟨.inl rfl, he⟩
        · exact .inr ⟨.inr h, hgt x h⟩
      · rintro (h | ⟨h, h2⟩)
        · exact .inl h
        · exact .inr h
theorem Sorted.ins {c : Cel} : ∀ {l : List Cel}, Sorted l → Sorted (ins c l)
 | [], _ => List.pairwise_singleton _ _
 | a :: l, hs => by
  unfold Ha.ins
  by_cases ha : a.key < c.key
  · rw [if_pos ha]
    refine List.pairwise_cons.2 ⟨fun x hx => ?_, hs.tail.ins⟩
    rcases (mem_ins hs.tail).1 hx with rfl | ⟨h, _⟩
    · exact ha
    · exact hs.head x h
  · rw [if_neg ha]
    by_cases he : a.key = c.key
    · rw [if_pos he]
      exact List.pairwise_cons.2 ⟨fun x hx => by rw [← he]; exact hs.head x hx, hs.tail⟩
    · rw [if_neg he]
      have hca := list_lt_total ha he
      refine List.pairwise_cons.2 ⟨fun x hx => ?_, hs⟩
      rcases List.mem_cons.1 hx with rfl | h
      · exact hca
      · exact list_lt_trans hca (hs.head x h)
theorem cut_has {k : List UInt8} : ∀ {l : List Cel}, Sorted l → has k l → cutK k l = l.eraseIdx (pos k l)
 | [], _, h => by obtain ⟨_, h, _⟩ := h; cases h
 | a :: l, hs, h => by
  unfold cutK
  by_cases ha : a.key < k
  · have hne : a.key ≠ k := fun e => by rw [e] at ha; exact list_lt_irrefl _ ha
    have h2 : has k l := by
     obtain ⟨x, hx, e⟩ := h
     rcases List.mem_cons.1 hx with h | h
     · subst h; exact absurd e hne
     · exact ⟨x, h, e⟩
    rw [List.filter_cons_of_pos (by simpa using hne), pos_cons_lt ha, List.eraseIdx_cons_succ]
    exact congrArg _ (cut_has hs.tail h2)
  · have he : a.key = k := by
     obtain ⟨x, hx, e⟩ := h
     rcases List.mem_cons.1 hx with h | h
     · subst h; exact e
     · exact absurd (by rw [← e]; exact hs.head x h) ha
    rw [List.filter_cons_of_neg (by simpa using he), pos_cons_ge hs ha, List.eraseIdx_cons_zero]
    refine List.filter_eq_self.2 fun x hx => ?_
    have := hs.head x hx
    simp only [ne_eq, decide_eq_true_eq]
    intro e
    rw [he, e] at this
    exact list_lt_irrefl _ this
theorem cut_none {k : List UInt8} {l : List Cel} (h : ¬ has k l) : cutK k l = l :=
 List.filter_eq_self.2 fun x hx => by
  simp only [ne_eq, decide_eq_true_eq]
  exact fun e => h ⟨x, hx, e⟩
theorem Sorted.cut {k : List UInt8} {l : List Cel} (h : Sorted l) : Sorted (cutK k l) := List.Pairwise.filter _ h
theorem mem_cut {k : List UInt8} {l : List Cel} {x : Cel} : x ∈ cutK k l ↔ x ∈ l ∧ x.key ≠ k := by
 unfold cutK
 rw [List.mem_filter]
 simp
theorem szs_cut_le (k : List UInt8) (l : List Cel) : szs (cutK k l) ≤ szs l := by
 induction l with
 | nil => exact Nat.le_refl _
 | cons a l ih =>
  unfold cutK at ih ⊢
  by_cases h : a.key = k
  · rw [List.filter_cons_of_neg (by simpa using h)]
    simp [szs] at ih ⊢; omega
  · rw [List.filter_cons_of_pos (by simpa using h)]
    simp [szs] at ih ⊢; omega
theorem Fits.sorted {l : List Cel} (h : Fits l) : Sorted l := h.lt
theorem Fits.cut {l : List Cel} (h : Fits l) (k : List UInt8) : Fits (cutK k l) :=
 ⟨fun c hc => h.ok c (mem_cut.1 hc).1, h.sorted.cut, Nat.le_trans (szs_cut_le k l) h.room⟩
theorem Fits.ins {l : List Cel} {c : Cel} (h : Fits l) (hc : c.ok) (hr : szs (Ha.ins c l) ≤ 239) : Fits (Ha.ins c l) :=
 ⟨fun x hx => by
  rcases (mem_ins h.sorted).1 hx with rfl | ⟨h1, _⟩
  · exact hc
  · exact h.ok x h1, h.sorted.ins, hr⟩
end Go.Proofs.YtijhamllnnilbaaGreatDoor.Ha
namespace Go.Proofs.YtijhamllnnilbaaGreatDoor.Dr
open Go.Proofs.YtijhamllnnilbaaGreatDoor.Pg

def bt (l : List UInt8) (i : Nat) : Int := (l.getD i 0).toNat
def ent (l : List UInt8) (i : Nat) : Int := bt l (2 * i) * 256 + bt l (2 * i + 1)
def ents (l : List UInt8) (n : Nat) : List Int := (List.range n).map fun i => ent l i
theorem ents_len (l : List UInt8) (n : Nat) : (ents l n).length = n := by simp [ents]
theorem ents_succ (l : List UInt8) (n : Nat) : ents l (n + 1) = ents l n ++ [ent l n] := by simp [ents, List.range_succ]
def mayP (x : Int) : Prop := 2 ≤ x ∧ x < 64
instance (x : Int) : Decidable (mayP x) := inferInstanceAs (Decidable (_ ∧ _))
def mayB (x : Int) : Bool := decide (mayP x)
theorem bt_range (l : List UInt8) (i : Nat) : 0 ≤ bt l i ∧ bt l i ≤ 255 := by
 have := (l.getD i 0).toNat_lt
 unfold bt
 omega
structure IsDir (k d : Int) (l : List UInt8) (n : Nat) : Prop where
 kind : k = 1
 lo : 0 ≤ d
 hi : d ≤ 5
 len : l.length = 240
 size : n = 2 ^ d.toNat
 may : ∀ i, i < n → mayP (ent l i)
 rest : ∀ c ∈ l.drop (2 * n), c = 0
theorem IsDir.le {k d : Int} {l : List UInt8} {n : Nat} (h : IsDir k d l n) : 1 ≤ n ∧ n ≤ 32 := by
 have h1 := h.lo
 have h2 := h.hi
 have h3 := h.size
 obtain ⟨m, rfl⟩ := Int.eq_ofNat_of_zero_le h1
 have : m ≤ 5 := by omega
 match m, this with
 | 0, _ | 1, _ | 2, _ | 3, _ | 4, _ | 5, _ => simp at h3; omega
end Go.Proofs.YtijhamllnnilbaaGreatDoor.Dr
namespace Go.Proofs.YtijhamllnnilbaaGreatDoor.Dr
open Go.RowKit Go.Proofs.YtijhamllnnilbaaGreatDoor.Mem Go.Proofs.YtijhamllnnilbaaGreatDoor.Pg

theorem may_any (x : Int) (w : World) : Calls Tryz.prog 163 #[.int .i64 x] w fun e w' => e = .returned (.bool (mayB x)) ∧ w' = w := by
 by_cases h1 : 2 ≤ x
 · by_cases h2 : x < 64
   · have hb : mayB x = true := decide_eq_true ⟨h1, h2⟩
     go_enter Tryz.func163, Tryz.ntmps163
     go_wp2
     go_ret
     exact ⟨by first | rfl | (rw [hb]; rfl), rfl⟩
   · have hb : mayB x = false := decide_eq_false (fun h => h2 h.2)
     go_enter Tryz.func163, Tryz.ntmps163
     go_wp2
     go_ret
     exact ⟨by first | rfl | (rw [hb]; rfl), rfl⟩
 · have hb : mayB x = false := decide_eq_false (fun h => h1 h.1)
   go_enter Tryz.func163, Tryz.ntmps163
   go_wp2
   go_ret
   exact ⟨by first | rfl | (rw [hb]; rfl), rfl⟩
end Go.Proofs.YtijhamllnnilbaaGreatDoor.Dr
namespace Go.Proofs.YtijhamllnnilbaaGreatDoor.Sp
open Go.RowKit Go.Proofs.YtijhamllnnilbaaGreatDoor.Mem Go.Proofs.YtijhamllnnilbaaGreatDoor.Pg

def usedF (k : Int) (l : List UInt8) (n : Int) : Bool := decide (0 ≤ n) && (decide (n < (pagesF k l : Int)) && decide (bt l n.toNat = 1))
theorem usedF_iff (k : Int) (l : List UInt8) (n : Int) : usedF k l n = true ↔ 0 ≤ n ∧ n < (pagesF k l : Int) ∧ bt l n.toNat = 1 := by simp [usedF]

set_option maxRecDepth 100000 in
theorem used_any (k d x n : Int) (l : List UInt8) (w : World) (hl : l.length ≤ 1000000) :
 Calls Tryz.prog 70 #[.agg #[.int .i64 k, .int .i64 d, .int .i64 x, .string (str l)], .int .i64 n] w fun e w' =>
  e = .returned (.bool (usedF k l n)) ∧ Below w.heap.size w w' := by
 have hpg := fun w => pages_any k d x l w hl
 have hpl : pagesF k l ≤ l.length := by
  by_cases h : pagesF k l = 0
  · omega
  · have := pagesF_len k l h; have := pagesF_le k l; omega
 have hbt := str_bt l
 have hss := str_size l
 generalize hs : str l = s at hpg hbt hss ⊢
 clear hs
 by_cases h0 : 0 ≤ n
 · have d0 : decide (0 ≤ n) = true := by simpa using h0
   by_cases h1 : n < (pagesF k l : Int)
   · have d1 : decide (n < (pagesF k l : Int)) = true := by simpa using h1
     obtain ⟨m, rfl⟩ : ∃ m : Nat, n = m := ⟨n.toNat, by omega⟩
     have hm : m < s.size := by omega
     have hb := hbt m hm
     have hu : usedF k l m = decide (bt l m = 1) := by simp only [usedF, d0, d1, Bool.true_and, Int.toNat_natCast]
     have Hu := Lib.hid hu
     clear hu hbt
     have hm' : (m : Int) < (s.size : Int) := by omega
     go_enter Tryz.func70, Tryz.ntmps70
     go_wp2_with fail
     refine (hpg _).mono ?_
     rintro e w1 ⟨rfl, hb1⟩
     have hblk := blk_below hb1
     have hc := blk_cell hblk
     have hf := blk_free hblk
     have hsz := lt_of_block hblk
     have hbw := below_tr (below_al (Below.refl _ w) _) hb1
     clear hb1 hpg
     by_cases hone : bt l m = 1
     · have e1 : (bt l m == 1) = true := by simpa using hone
       have Ho := Lib.hid hone
       clear hone
       go_wp2
       go_ret
       exact ⟨by rw [Hu.out]; simp [Ho.out], hbw⟩
     · have e1 : (bt l m == 1) = false := by simpa using hone
       have Ho := Lib.hid hone
       clear hone
       go_wp2
       go_ret
       exact ⟨by rw [Hu.out]; simp [Ho.out], hbw⟩
   · have d1 : decide (n < (pagesF k l : Int)) = false := by simpa using h1
     have hu : usedF k l n = false := by simp only [usedF, d0, d1, Bool.true_and, Bool.false_and]
     go_enter Tryz.func70, Tryz.ntmps70
     go_wp2_with fail
     refine (hpg _).mono ?_
     rintro e w1 ⟨rfl, hb1⟩
     have hblk := blk_below hb1
     have hc := blk_cell hblk
     have hf := blk_free hblk
     have hsz := lt_of_block hblk
     have hbw := below_tr (below_al (Below.refl _ w) _) hb1
     clear hb1 hpg
     go_wp2
     go_ret
     exact ⟨by rw [hu]; rfl, hbw⟩
 · have d0 : decide (0 ≤ n) = false := by simpa using h0
   have hu : usedF k l n = false := by simp only [usedF, d0, Bool.false_and]
   go_enter Tryz.func70, Tryz.ntmps70
   go_wp2
   go_ret
   exact ⟨by first | rfl | (rw [hu]; rfl), below_al (Below.refl _ w) _⟩
end Go.Proofs.YtijhamllnnilbaaGreatDoor.Sp
namespace Go.Proofs.YtijhamllnnilbaaGreatDoor.Sp
open Go.RowKit Go.Proofs.YtijhamllnnilbaaGreatDoor.Mem Go.Proofs.YtijhamllnnilbaaGreatDoor.Pg

set_option maxRecDepth 100000 in
theorem give_ok (k d x : Int) (n : Nat) (l : List UInt8) (w : World) (hl : l.length ≤ 1000) (h2 : 2 ≤ n) (hu : usedF k l n = true) :
 Calls Tryz.prog 78 #[.agg #[.int .i64 k, .int .i64 d, .int .i64 x, .string (str l)], .int .i64 n] w fun e w' =>
  e = .returned (.tuple #[.agg #[.int .i64 k, .int .i64 d, .int .i64 x, .string (str (l.set n 2))], .int .i64 0]) ∧ Below w.heap.size w w' := by
 have hpg := fun w => pages_any k d x l w (by omega)
 have hug := fun w => used_any k d x n l w (by omega)
 have hp : pagesF k l ≠ 0 := by have := (usedF_iff k l n).1 hu; omega
 have hlen := (pagesF_len k l hp).2.1
 have hle := pagesF_le k l
 have hn : n < l.length := by have := (usedF_iff k l n).1 hu; omega
 have hst : ∀ w, Calls Tryz.prog 159 #[.agg #[.int .i64 k, .int .i64 d, .int .i64 x, .string (str l)], .int .i64 n, .int .u8 2] w fun e w' => e = .returned (.agg #[.int .i64 k, .int .i64 d, .int .i64 x, .string (str (l.set n 2))]) ∧ Below w.heap.size w w' := fun w => set_any k d x l n 2 w hn hl
 rw [hu] at hug
 generalize hs : str l = s at hpg hug hst ⊢
 generalize hs2 : str (l.set n 2) = s2 at hst ⊢
 clear hs hs2 hlen hle hn
 have hp' : ((pagesF k l : Int) == 0) = false := by simp; exact hp
 have d2 : decide ((n : Int) < 2) = false := by simp; omega
 go_enter Tryz.func78, Tryz.ntmps78
 go_wp2_with fail
 refine (hpg _).mono ?_
 rintro e w1 ⟨rfl, hb1⟩
 have blk1 := blk2_below hb1
 have hbw1 := below_tr (below_al (below_al (Below.refl _ w) _) _) hb1
 have hc1 := blk_cell blk1.1
 have hf1 := blk_free blk1.1
 have hsz1 := lt_of_block blk1.1
 have hd1 := blk_cell blk1.2
 have hg1 := blk_free blk1.2
 have hsy1 := lt_of_block blk1.2
 clear hb1
 clear hpg
 go_wp2_with fail
 refine (hug _).mono ?_
 rintro e w2 ⟨rfl, hb2⟩
 have blk2 : w2.heap[w.heap.size]? = _ ∧ w2.heap[w.heap.size + 1]? = _ := ⟨blk_keep blk1.1 hb2, blk_keep blk1.2 hb2⟩
 have hbw2 := below_tr hbw1 hb2
 clear hc1 hf1 hsz1 hd1 hg1 hsy1 hbw1 blk1
 have hc2 := blk_cell blk2.1
 have hf2 := blk_free blk2.1
 have hsz2 := lt_of_block blk2.1
 have hd2 := blk_cell blk2.2
 have hg2 := blk_free blk2.2
 have hsy2 := lt_of_block blk2.2
 clear hb2
 clear hug
 go_wp2_with fail
 refine (hst _).mono ?_
 rintro e w3 ⟨rfl, hb3⟩
 have blk3 : w3.heap[w.heap.size]? = _ ∧ w3.heap[w.heap.size + 1]? = _ := ⟨blk_keep blk2.1 hb3, blk_keep blk2.2 hb3⟩
 have hbw3 := below_tr hbw2 hb3
 clear hc2 hf2 hsz2 hd2 hg2 hsy2 hbw2 blk2
 have hc3 := blk_cell blk3.1
 have hf3 := blk_free blk3.1
 have hsz3 := lt_of_block blk3.1
 have hd3 := blk_cell blk3.2
 have hg3 := blk_free blk3.2
 have hsy3 := lt_of_block blk3.2
 clear hb3
 clear hst
 go_wp2
 refine bodyPost_ret (v := .tuple #[.agg #[.int .i64 k, .int .i64 d, .int .i64 x, .string s2], .int .i64 0]) (by simp [results, Tryz.results78, go_sem, hd3]) rfl ⟨rfl, ?_⟩
 exact below_set (below_set (below_set (below_set hbw3 (Nat.le_succ _)) (Nat.le_succ _)) (Nat.le_succ _)) (Nat.le_succ _)
end Go.Proofs.YtijhamllnnilbaaGreatDoor.Sp
