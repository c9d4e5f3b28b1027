/- Lemmas of the claim, in their order:
- The contracts of dir's All, Depth, At.
- The contract of a group's Get.
-/
import Derived.Test.YtijhamllnnilbaaGreatDoorP08
import Derived.Test.YtijhamllnnilbaaGreatDoorP09
set_option linter.unusedVariables false
set_option linter.unusedSimpArgs false
namespace Go.Proofs.YtijhamllnnilbaaGreatDoor.Dr
open Go.RowKit Go.Proofs.YtijhamllnnilbaaGreatDoor.Mem Go.Proofs.YtijhamllnnilbaaGreatDoor.Pg

def AllPost (w : World) (k d : Int) (l : List UInt8) (e : Ending) (w' : World) : Prop :=
 (∃ n g cap, IsDir k d l n ∧ e = .returned (.slice (some ⟨g, 0, none⟩) n cap) ∧ w'.ownsRow w.heap.size 3 1 (.slice (some ⟨g, 0, none⟩) n cap) n (ints (ents l n)) ∧ g < w'.heap.size ∧ w.heap.size ≤ g ∧ Below w.heap.size w w') ∨
 ((∀ n, ¬ IsDir k d l n) ∧ e = .returned (.slice none 0 0) ∧ Below w.heap.size w w')
theorem al_le (w : World) (o : Obj) : w.heap.size ≤ (w.alloc o).heap.size := by simp
theorem below_box {w w1 : World} {o : Obj} (hb : Below (w.alloc o).heap.size (w.alloc o) w1) : Below w.heap.size w w1 := below_base (below_al (Below.refl _ w) o) (al_le w o) hb

set_option maxRecDepth 100000 in
set_option maxHeartbeats 2000000 in
theorem all_any (k d x : Int) (l : List UInt8) (w : World) :
 Calls Tryz.prog 147 #[.agg #[.int .i64 k, .int .i64 d, .int .i64 x, .string (str l)]] w (AllPost w k d l) := by
 have hof := fun w => of_any k d x l w
 generalize str l = S at *
 go_enter Tryz.func147, Tryz.ntmps147
 go_wp2_with fail
 with_reducible refine (hof _).mono ?_
 clear hof
 rintro e w1 (⟨n, g, cap, hd, rfl, hown, hgl, hgb, hb⟩ | ⟨hno, rfl, hb⟩)
 · go_wp2
   go_ret
   exact .inl ⟨n, g, cap, hd, rfl, own_weaken (hown.alloc _) (al_le _ _), lt_al hgl _, Nat.le_trans (al_le _ _) hgb, below_al (below_box hb) _⟩
 · have Hno := Lib.hid hno
   clear hno
   go_wp2
   go_ret
   exact .inr ⟨Hno.out, rfl, below_al (below_box hb) _⟩

set_option maxRecDepth 100000 in
set_option maxHeartbeats 2000000 in
theorem depth_any (k d x : Int) (l : List UInt8) (w : World) :
 Calls Tryz.prog 132 #[.agg #[.int .i64 k, .int .i64 d, .int .i64 x, .string (str l)]] w fun e w' =>
  ((∃ n, IsDir k d l n) ∧ e = .returned (.int .i64 d) ∨ (∀ n, ¬ IsDir k d l n) ∧ e = .returned (.int .i64 (-1))) ∧ Below w.heap.size w w' := by
 have hof := fun w => of_any k d x l w
 generalize hS : str l = S at *
 clear hS
 go_enter Tryz.func132, Tryz.ntmps132
 go_wp2_with fail
 with_reducible refine (hof _).mono ?_
 clear hof
 rintro e w1 (⟨n, g, cap, hd, rfl, hown, hgl, hgb, hb⟩ | ⟨hno, rfl, hb⟩)
 · have Hd := Lib.hid hd
   have hcb := blk_cell (blk_below hb)
   have hlb := lt_of_block (blk_below hb)
   clear hd hown
   go_wp2
   go_ret
   exact ⟨.inl ⟨⟨n, Hd.out⟩, rfl⟩, below_al (below_box hb) _⟩
 · have Hno := Lib.hid hno
   clear hno
   go_wp2
   go_ret
   exact ⟨.inr ⟨Hno.out, rfl⟩, below_al (below_box hb) _⟩

def AtPost (w : World) (k d : Int) (l : List UInt8) (bits : Int) (e : Ending) (w' : World) : Prop :=
 ((∃ n i : Nat, IsDir k d l n ∧ bits = i ∧ i < n ∧ e = .returned (.tuple #[.int .i64 (ent l i), .bool true])) ∨ ((∀ n, IsDir k d l n → bits < 0 ∨ n ≤ bits) ∧ e = .returned (.tuple #[.int .i64 0, .bool false]))) ∧ Below w.heap.size w w'
theorem isDir_same {k d : Int} {l : List UInt8} {n m : Nat} (h : IsDir k d l n) (h' : IsDir k d l m) : n = m := h.size.trans h'.size.symm

set_option maxRecDepth 100000 in
set_option maxHeartbeats 2000000 in
theorem at_any (k d x : Int) (l : List UInt8) (bits : Int) (w : World) :
 Calls Tryz.prog 133 #[.agg #[.int .i64 k, .int .i64 d, .int .i64 x, .string (str l)], .int .i64 bits] w (AtPost w k d l bits) := by
 have hof := fun w => all_any k d x l w
 generalize str l = S at *
 go_enter Tryz.func133, Tryz.ntmps133
 go_wp2_with fail
 with_reducible refine (hof _).mono ?_
 clear hof
 rintro e w1 (⟨n, g, cap, hd, rfl, hown, hgl, hgb, hb⟩ | ⟨hno, rfl, hb⟩)
 · by_cases h1 : bits < 0
   · have hpost : Hid (∀ m, IsDir k d l m → bits < 0 ∨ m ≤ bits) := fun m _ => .inl h1
     clear hd hown
     go_wp2
     go_ret2
     exact ⟨.inr ⟨hpost.out, rfl⟩, below_box hb⟩
   · obtain ⟨i, rfl⟩ := Int.eq_ofNat_of_zero_le (show 0 ≤ bits from by omega)
     by_cases h2 : i < n
     · have hce := own_at hown i (.int .i64 (ent l i)) (by simp [ints, ents, h2])
       have Hd := Lib.hid hd
       obtain ⟨X, hX⟩ : ∃ X, X = ent l i := ⟨_, rfl⟩
       rw [← hX] at hce
       have HX := Lib.hid hX
       clear hd hown hX
       go_wp2
       go_ret2
       exact ⟨.inl ⟨n, i, Hd.out, rfl, h2, by rw [← HX.out]; rfl⟩, below_box hb⟩
     · have hpost : Hid (∀ m, IsDir k d l m → (i : Int) < 0 ∨ (m : Int) ≤ i) := fun m hm => by have := isDir_same hd hm; omega
       clear hd hown
       go_wp2
       go_ret2
       exact ⟨.inr ⟨hpost.out, rfl⟩, below_box hb⟩
 · have hpost : Hid (∀ m, IsDir k d l m → bits < 0 ∨ m ≤ bits) := fun m hm => absurd hm (hno m)
   clear hno
   go_wp2
   all_goals go_ret2
   all_goals exact ⟨.inr ⟨hpost.out, rfl⟩, below_box hb⟩
end Go.Proofs.YtijhamllnnilbaaGreatDoor.Dr
namespace Go.Proofs.YtijhamllnnilbaaGreatDoor.Gr
open Go.RowKit Go.Proofs.YtijhamllnnilbaaGreatDoor.Mem Go.Proofs.YtijhamllnnilbaaGreatDoor.Pg Go.Proofs.YtijhamllnnilbaaGreatDoor.Kp
set_option linter.unusedSimpArgs false
set_option linter.unusedVariables false

def seen (n : Nat) (dead : Int) (B : Nat → List UInt8) (M : Int → Option (List UInt8)) (i : Int) : List UInt8 × Int := match M i with
 | some b => (b, 0)
 | none => rd n dead B i
set_option maxRecDepth 100000 in
set_option maxHeartbeats 2000000 in
theorem gget_any (w : World) (gb mb sb qb n c : Nat) (dead : Int) (B : Nat → List UInt8) (M : Int → Option (List UInt8)) (tk i : Int) (hi : (Lit.int .i64 i).wf = true) (ht : Tab w) (hs : Sto w sb qb n c dead B) (hg : Grp w gb mb sb M tk) (b : List UInt8) (p : Pag) (h : seen n dead B M i = (b, 0)) (hp : Shows b p) :
 Calls Tryz.prog 64 #[.pointer (some ⟨gb, 0, none⟩), .int .i64 i] w fun e w' => e = .returned (.tuple #[p.v, .int .i64 0]) ∧ Below w.heap.size w w' := by
 have hlk := fun W (k : MapIs W mb M) => k.look i hi
 have hk4 := heap_alloc_new w (.cells #[.int .i64 0, .int .i64 0, .int .i64 0, .string ⟨#[]⟩] 113)
 have ht1 := ht.alloc (.cells #[.int .i64 0, .int .i64 0, .int .i64 0, .string ⟨#[]⟩] 113)
 have hb1 := below_al (Below.refl _ w) (.cells #[.int .i64 0, .int .i64 0, .int .i64 0, .string ⟨#[]⟩] 113)
 have hg1 := hg.below hb1
 have hs1 := hs.below hb1
 have cg := blk_cell hg1.grp
 have zg := hg1.lt1
 have hrun := hlk _ hg1.map
 have Hs1 := Lib.hid hs1
 have Hg1 := Lib.hid hg1
 have H4 := Lib.hid hk4
 have HT := Lib.hid ht1
 have HB := Lib.hid hb1
 have hrd := fun W (k : Sto W sb qb n c dead B) => read_any W sb qb n c dead B i k
 have hget := fun W (k : Tab W) => get_any b p W k hp
 obtain ⟨S, hS⟩ : ∃ S, S = str b := ⟨_, rfl⟩
 obtain ⟨k, d, x, l⟩ := p
 simp only [Pag.v] at hget ⊢
 obtain ⟨T, hT⟩ : ∃ T, T = str l := ⟨_, rfl⟩
 rw [← hS, ← hT] at hget
 rw [← hT]
 unfold seen at h
 clear hk4 ht1 hb1 hg1 hs1 hs hg ht hp hT
 rcases e : M i with _ | b'
 · rw [e] at h hrun
   simp only [Option.getD_none, Option.isSome_none] at h hrun
   simp only [h, ← hS] at hrd
   clear e h hS
   go_enter Tryz.func64, Tryz.ntmps64
   go_wp2_with fail
   with_reducible refine (hrd _ Hs1.out).mono ?_
   rintro e w1 ⟨rfl, rfl⟩
   go_wp2_with fail
   with_reducible refine (hget _ HT.out).mono ?_
   rintro e w2 ⟨rfl, hb2⟩
   have q4 := blk_keep H4.out hb2
   have hbb := below_tr HB.out hb2
   have c4 := blk_cell q4
   have f4 := blk_free q4
   have z4 := lt_of_block q4
   have q9 := heap_alloc_new w2 (.cells #[.int .i64 k, .int .i64 d, .int .i64 x, .string T] 113)
   have hne : w2.heap.size ≠ w.heap.size := by omega
   have c9 := blk_cell q9
   have c5 := blk_cell (hal (o := .cells #[.int .i64 k, .int .i64 d, .int .i64 x, .string T] 113) (set4_same q4 (.int .i64 k) (.int .i64 d) (.int .i64 x) (.string T)))
   clear q4 q9 hb2 cg zg hrun
   go_wp2_with fail
   refine bodyPost_ret (v := .tuple #[.agg #[.int .i64 k, .int .i64 d, .int .i64 x, .string T], .int .i64 0]) (by simp [results, Tryz.results64, go_sem, c5]) rfl ⟨rfl, ?_⟩
   exact below_al (below_set4 hbb (Nat.le_refl _) _ _ _ _) _
 · rw [e] at h hrun
   simp only [Option.getD_some, Option.isSome_some, Prod.mk.injEq, and_true] at h hrun
   subst h
   rw [← hS] at hrun
   clear e hS hrd
   go_enter Tryz.func64, Tryz.ntmps64
   go_wp2_with fail
   with_reducible refine (hget _ HT.out).mono ?_
   rintro e w2 ⟨rfl, hb2⟩
   have q4 := blk_keep H4.out hb2
   have hbb := below_tr HB.out hb2
   have c4 := blk_cell q4
   have f4 := blk_free q4
   have z4 := lt_of_block q4
   have q9 := heap_alloc_new w2 (.cells #[.int .i64 k, .int .i64 d, .int .i64 x, .string T] 113)
   have hne : w2.heap.size ≠ w.heap.size := by omega
   have c9 := blk_cell q9
   have c5 := blk_cell (hal (o := .cells #[.int .i64 k, .int .i64 d, .int .i64 x, .string T] 113) (set4_same q4 (.int .i64 k) (.int .i64 d) (.int .i64 x) (.string T)))
   clear q4 q9 hb2 cg zg hrun
   go_wp2_with fail
   refine bodyPost_ret (v := .tuple #[.agg #[.int .i64 k, .int .i64 d, .int .i64 x, .string T], .int .i64 0]) (by simp [results, Tryz.results64, go_sem, c5]) rfl ⟨rfl, ?_⟩
   exact below_al (below_set4 hbb (Nat.le_refl _) _ _ _ _) _

end Go.Proofs.YtijhamllnnilbaaGreatDoor.Gr
