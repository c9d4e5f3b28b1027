/- Lemmas of the claim, in their order:
- Small lemmas on worlds and rows that the call itself owns.
- Contracts of package page's zeros and Empty, and small lemmas on strings as lists of bytes.
- Worlds that differ in certain blocks alone (those of the objects that a callee may write) and in new ones.
- Pages as lists of bytes; the library's table of blanks.
- Cells, as bytes and back: no program in sight.
-/
import Derived.WalkKit
import Derived.Lib.Hide
import Derived.Deep.Draws
import Derived.Laws.OwnMore
import Derived.Maps.AppendAt
import Derived.Deep.OwnRows
import Derived.Deep.AppendLies
import Derived.OrdersHeld
import Derived.Deep.RegionHeld
import Derived.Test.YtijhamllnnilbaaGreatDoorShelf
import Derived.KernelRfl
import Derived.Outline
import Derived.Lib.Repeat
import Derived.RegionTactic
import Derived.ChangeAlike
import Derived.Lib.LaidTab
import Derived.Lib.SlicesS
import Derived.Lib.Bytealg
import Derived.Sort.Walk0
set_option linter.unusedVariables false
set_option linter.unusedSimpArgs false
namespace Go.Proofs.YtijhamllnnilbaaGreatDoor.Mem
open Go.RowKit

theorem below_tr {a b c : World} (h : Below a.heap.size a b) (k : Below b.heap.size b c) : Below a.heap.size a c := h.trans (k.mono h.size)
theorem below_al {a b : World} (h : Below a.heap.size a b) (o : Obj) : Below a.heap.size a (b.alloc o) := h.alloc h.size o
theorem below_dr {B : Nat} {a b : World} (h : Below B a b) : Below B a b.drew := h.drew
theorem below_drN {B : Nat} {a b : World} (h : Below B a b) (n : Nat) : Below B a (b.drewN n) := ⟨h.os, h.tape, h.output, h.size, h.block⟩
theorem below_base {B : Nat} {w a b : World} (h : Below B w a) (hB : B ≤ a.heap.size) (k : Below a.heap.size a b) : Below B w b := h.trans (k.mono hB)

theorem grown_of_below {w w1 : World} (h : Below w.heap.size w w1) (row : Option Nat) : w.grownBy w1 row := ⟨h.os, h.tape, h.output, h.size, fun i hi _ => h.block i hi⟩
theorem own_below {w w1 : World} {base : Nat} {e : TypeId} {size n : Nat} {v : Value} {xs : List Value} (h : w.ownsRow base e size v n xs) (hb : Below w.heap.size w w1) : w1.ownsRow base e size v n xs :=
 h.kept (grown_of_below hb none) (by cases v.ownBlock <;> simp)
theorem own_base {w : World} {base : Nat} {e : TypeId} {size n : Nat} {v : Value} {xs : List Value} (h : w.ownsRow base e size v n xs) (k : Nat) (hk : v.ownBlock = some k) : base ≤ k := by
 rcases h.2 with ⟨rfl, _⟩ | ⟨g, cap, cur, rfl, hb, _⟩
 · simp [Value.ownBlock] at hk
 · have : g = k := by simpa [Value.ownBlock] using hk
   omega
theorem own_lt {w : World} {base : Nat} {e : TypeId} {size n : Nat} {v : Value} {xs : List Value} (h : w.ownsRow base e size v n xs) (k : Nat) (hk : v.ownBlock = some k) : k < w.heap.size := by
 rcases h.2 with ⟨rfl, _⟩ | ⟨g, cap, cur, rfl, hb, hh, _⟩
 · simp [Value.ownBlock] at hk
 · have : g = k := by simpa [Value.ownBlock] using hk
   subst this
   exact (Array.getElem?_eq_some_iff.1 hh).1
theorem below_grown {B : Nat} {w a b : World} (h : Below B w a) (hB : B ≤ a.heap.size) {e : TypeId} {size n : Nat} {v : Value} {xs : List Value} {wo : World} (ho : wo.ownsRow B e size v n xs) (hg : a.grownBy b v.ownBlock) : Below B w b :=
 h.grown hg hB (fun k hk => own_base ho k hk)
theorem own_slice {w : World} {base n : Nat} {e : TypeId} {size : Nat} {v : Value} {xs : List Value} (h : w.ownsRow base e size v n xs) : ∃ A c, v = .slice A n c := by
 rcases h.2 with ⟨rfl, rfl⟩ | ⟨g, cap, cur, rfl, _⟩
 · exact ⟨none, 0, rfl⟩
 · exact ⟨_, cap, rfl⟩
theorem cells_one (W : World) (y : Value) (e : TypeId) : ∀ j u, [y][j]? = some u → (W.alloc (.cells #[y] e)).cell? ((⟨W.heap.size, 0, none⟩ : Addr).add j) = some u := by
 intro j u hj
 match j, hj with
 | 0, hj =>
  simp at hj
  subst hj
  simp [Addr.add]

theorem cells_new (W : World) (g : Nat) (hg : g = W.heap.size) (cs : List Value) (e : TypeId) : ∀ j u, cs[j]? = some u → (W.alloc (.cells cs.toArray e)).cell? ((⟨g, 0, none⟩ : Addr).add j) = some u := by
 intro j u hj
 subst hg
 have ha : (⟨W.heap.size, 0, none⟩ : Addr).add j = ⟨W.heap.size, j, none⟩ := by unfold Addr.add; split <;> simp_all
 rw [ha, cell_of_row _ _ _ _ _ _ (heap_alloc_new W _)]
 simpa using hj
theorem own_at {w : World} {base n g cap m : Nat} {e : TypeId} {size : Nat} {xs : List Value} (h : w.ownsRow base e size (.slice (some ⟨g, 0, none⟩) m cap) n xs) (j : Nat) (u : Value) (hj : xs[j]? = some u) : w.cell? ⟨g, j, none⟩ = some u := by
 have hc := h.cells (g := g) rfl j u hj
 have ha : (⟨g, 0, none⟩ : Addr).add j = ⟨g, j, none⟩ := by unfold Addr.add; split <;> simp_all
 rwa [ha] at hc
theorem own_free {w : World} {base n g cap m : Nat} {e : TypeId} {size : Nat} {xs : List Value} (h : w.ownsRow base e size (.slice (some ⟨g, 0, none⟩) m cap) n xs) (j : Nat) : w.frozen? ⟨g, j, none⟩ = false := by
 rcases h.2 with ⟨h0, _⟩ | ⟨g', cap', cur, h0, _, hh, _⟩
 · cases h0
 · injection h0 with h1 _ _
   injection h1 with h1
   injection h1 with h1 _ _
   subst h1
   simp [World.frozen?, hh]
theorem own_cap {w : World} {base n g cap m : Nat} {e : TypeId} {size : Nat} {xs : List Value} (h : w.ownsRow base e size (.slice (some ⟨g, 0, none⟩) m cap) n xs) : m = n ∧ n ≤ cap := by
 rcases h.2 with ⟨h0, _⟩ | ⟨_, _, _, h0, _, _, h1, _⟩
 · cases h0
 · injection h0 with _ h2 h3
   omega
theorem keep_grown {W w4 wo : World} {b n k : Nat} {e : TypeId} {size : Nat} {v : Value} {xs : List Value} {X : Obj} (hown : wo.ownsRow b e size v n xs) (hg : W.grownBy w4 v.ownBlock) (hk : k < b) (h : W.heap[k]? = some X) : w4.heap[k]? = some X := by
 rw [hg.block k (lt_of_block h) (fun he => by have := own_base hown k he.symm; omega)]
 exact h
theorem lt_al {w : World} {g : Nat} (h : g < w.heap.size) (o : Obj) : g < (w.alloc o).heap.size := by simp; omega
theorem below_set {B g j : Nat} {a b : World} {u : Value} (h : Below B a b) (hg : B ≤ g) : Below B a (b.setCell ⟨g, j, none⟩ u) := h.setCell (p := ⟨g, j, none⟩) hg u
theorem blk_below {w w1 : World} {cs : Array Value} {t : TypeId} (hb : Below (w.alloc (.cells cs t)).heap.size (w.alloc (.cells cs t)) w1) : w1.heap[w.heap.size]? = some (.cells cs t (0, 0)) := by
 rw [hb.block _ (by simp)]
 exact heap_alloc_new w _
theorem blk_keep {w w1 : World} {g : Nat} {X : Obj} (h : w.heap[g]? = some X) (hb : Below w.heap.size w w1) : w1.heap[g]? = some X := by
 rw [hb.block g (lt_of_block h)]
 exact h
theorem blk2_below {w w1 : World} {cs ds : Array Value} {t u : TypeId} (hb : Below ((w.alloc (.cells cs t)).alloc (.cells ds u)).heap.size ((w.alloc (.cells cs t)).alloc (.cells ds u)) w1) :
 w1.heap[w.heap.size]? = some (.cells cs t (0, 0)) ∧ w1.heap[w.heap.size + 1]? = some (.cells ds u (0, 0)) := by
 constructor
 · rw [hb.block _ (by simp; omega), heap_alloc_old _ _ (by simp)]
   exact heap_alloc_new w _
 · rw [hb.block _ (by simp)]
   have := heap_alloc_new (w.alloc (.cells cs t)) (.cells ds u)
   simpa using this
theorem set2_same {w : World} {g : Nat} {a b : Value} {t : TypeId} (h : w.heap[g]? = some (.cells #[a, b] t (0, 0))) (a' b' : Value) :
 ((w.setCell ⟨g, 0, none⟩ a').setCell ⟨g, 1, none⟩ b').heap[g]? = some (.cells #[a', b'] t (0, 0)) :=
 heap_setCell_same _ g 1 _ t b' (heap_setCell_same w g 0 _ t a' h)
abbrev set4 (w : World) (g : Nat) (a b c d : Value) : World := (((w.setCell ⟨g, 0, none⟩ a).setCell ⟨g, 1, none⟩ b).setCell ⟨g, 2, none⟩ c).setCell ⟨g, 3, none⟩ d
theorem set4_same {w : World} {g : Nat} {a b c d : Value} {t : TypeId} (h : w.heap[g]? = some (.cells #[a, b, c, d] t (0, 0))) (a' b' c' d' : Value) :
 (set4 w g a' b' c' d').heap[g]? = some (.cells #[a', b', c', d'] t (0, 0)) := by
 have h1 := heap_setCell_same w g 0 _ t a' h
 have h2 := heap_setCell_same _ g 1 _ t b' h1
 have h3 := heap_setCell_same _ g 2 _ t c' h2
 exact heap_setCell_same _ g 3 _ t d' h3
theorem set4_other (w : World) {g k : Nat} (h : k ≠ g) (a b c d : Value) : (set4 w g a b c d).heap[k]? = w.heap[k]? := by
 rw [heap_setCell_other _ _ _ _ h, heap_setCell_other _ _ _ _ h, heap_setCell_other _ _ _ _ h, heap_setCell_other _ _ _ _ h]
theorem below_set4 {B g : Nat} {x y : World} (h : Below B x y) (hg : B ≤ g) (a b c d : Value) : Below B x (set4 y g a b c d) :=
 below_set (below_set (below_set (below_set h hg) hg) hg) hg
theorem hal {w : World} {g : Nat} {X o : Obj} (h : w.heap[g]? = some X) : (w.alloc o).heap[g]? = some X := (heap_alloc_old w o (lt_of_block h)).trans h
theorem hs4 {w : World} {g k : Nat} {X : Obj} {a b c d : Value} (h : w.heap[k]? = some X) (hn : k ≠ g) : (set4 w g a b c d).heap[k]? = some X := (set4_other w hn a b c d).trans h
theorem blk_cell {w : World} {g : Nat} {cs : Array Value} {t : TypeId} (h : w.heap[g]? = some (.cells cs t (0, 0))) (j : Nat) : w.cell? ⟨g, j, none⟩ = cs[j]? := cell_of_row w g j cs t (0, 0) h
theorem blk_free {w : World} {g : Nat} {cs : Array Value} {t : TypeId} (h : w.heap[g]? = some (.cells cs t (0, 0))) (j : Nat) : w.frozen? ⟨g, j, none⟩ = false := by simp [World.frozen?, h]

def ints (l : List Int) : List Value := l.map (Value.int .i64)
theorem ints_length (l : List Int) : (ints l).length = l.length := by simp [ints]

def Ints (w : World) (A : Option Addr) (n : Nat) (xs : List Int) : Prop :=
 xs.length = n ∧ n ≤ 9223372036854775807 ∧ (0 < n → ∃ b off, A = some ⟨b, off, none⟩ ∧ b < w.heap.size ∧ ∀ j, j < n → w.cell? ⟨b, off + j, none⟩ = some (.int .i64 (xs.getD j 0)))
theorem Ints.below {w w1 : World} {A : Option Addr} {n : Nat} {xs : List Int} (h : Ints w A n xs) (hb : Below w.heap.size w w1) : Ints w1 A n xs :=
 ⟨h.1, h.2.1, fun h0 => by
  obtain ⟨b, off, hA, hlt, hc⟩ := h.2.2 h0
  exact ⟨b, off, hA, Nat.lt_of_lt_of_le hlt hb.size, fun j hj => (hb.cell hlt).trans (hc j hj)⟩⟩
theorem ints_of_own {w : World} {base n : Nat} {e : TypeId} {v : Value} {xs : List Int} (h : w.ownsRow base e 1 v n (ints xs)) : ∃ A c, v = .slice A n c ∧ Ints w A n xs := by
 have hl : xs.length = n := by have := h.1; simp [ints] at this; exact this
 rcases Nat.eq_zero_or_pos n with h0 | h0
 · obtain ⟨A, c, rfl⟩ := own_slice h
   exact ⟨A, c, rfl, hl, by omega, fun hp => absurd hp (by omega)⟩
 · obtain ⟨g, cap, rfl, _, hlt⟩ := h.form h0
   have hm : n ≤ 9223372036854775807 := by
    rcases h.2 with ⟨_, h1⟩ | ⟨g', cap', cur, he, _, _, h1, h2, _⟩
    · omega
    · simp only [maxLen] at h2
      omega
   refine ⟨_, cap, rfl, hl, hm, fun _ => ⟨g, 0, rfl, hlt, fun j hj => ?_⟩⟩
   have hc := h.cells (g := g) rfl j (.int .i64 (xs.getD j 0)) (by simp [ints, List.getElem?_eq_getElem (show j < xs.length by omega), List.getD_eq_getElem?_getD])
   have ha : (⟨g, 0, none⟩ : Addr).add j = ⟨g, 0 + j, none⟩ := by unfold Addr.add; split <;> simp_all
   rwa [ha] at hc
end Go.Proofs.YtijhamllnnilbaaGreatDoor.Mem
namespace Go.Proofs.YtijhamllnnilbaaGreatDoor.Ra
open Go
section
variable {P : Program} {ops : Array Oper} {Q : Exit → Act → World → Prop} {md : Region.Mode} {S : World → Prop}
theorem W (i : Nat) (v : Value) {oi : Oper} {fuel : Nat} {listed : Array Bool} {a : Act} {w : World} (hv : ∀ w, S w → (execOp a.eval oi).run P w = .ok (.value v) w) (hS : S w)
 (h : wpAnyH P md ops Q S fuel (listed.setIfInBounds i true) (a.put oi.dst v) w) (hi : ops[i]? = some oi := by exact rfl) (hs : Region.noSelect ops = true := by kernel_rfl) (hf : Region.free md ops listed i = true := by kernel_rfl)
 (hr : (Region.ready md ops listed).contains i = true := by kernel_rfl) (hw : Region.wanted oi (yielded ops a.tmps) = true := by kernel_rfl) (hQ : ∀ c a w, Q (.panic c) (a.put oi.dst v) w → Q (.panic c) a w := by exact fun _ _ _ h => h) :
 wpAnyH P md ops Q S (fuel + 1) listed a w := wpAnyH_take hi hs hf hr hQ (.inl ⟨hw, hv⟩) hS h
theorem U (i : Nat) {oi : Oper} {fuel : Nat} {listed : Array Bool} {a : Act} {w : World} (hS : S w)
 (h : wpAnyH P md ops Q S fuel (listed.setIfInBounds i true) (a.put oi.dst undef) w) (hi : ops[i]? = some oi := by exact rfl) (hs : Region.noSelect ops = true := by kernel_rfl) (hf : Region.free md ops listed i = true := by kernel_rfl)
 (hr : (Region.ready md ops listed).contains i = true := by kernel_rfl) (hw : Region.wanted oi (yielded ops a.tmps) = false := by kernel_rfl) (hQ : ∀ c a w, Q (.panic c) (a.put oi.dst undef) w → Q (.panic c) a w := by exact fun _ _ _ h => h) :
 wpAnyH P md ops Q S (fuel + 1) listed a w := wpAnyH_take hi hs hf hr hQ (.inr ⟨hw, rfl⟩) hS h
end
theorem pX : (∀ (l : List Value) (i : Nat) (h : i < l.toArray.size), l.toArray[i] = l[i]'(by simpa using h)) ∧ (∀ (a : Value) (l : List Value) (i : Nat) (h : i + 1 < (a :: l).length), (a :: l)[i + 1] = l[i]'(by simpa using h)) ∧ (∀ (a : Value) (l : List Value) (h : 0 < (a :: l).length), (a :: l)[0] = a) ∧
 (∀ (l : List Value) (i : Nat) (a : Value), l.toArray.setIfInBounds i a = (l.set i a).toArray) ∧ (∀ (a b : Value) (l : List Value), (a :: l).set 0 b = b :: l) ∧ ∀ (a b : Value) (l : List Value) (i : Nat), (a :: l).set (i + 1) b = a :: l.set i b :=
 ⟨fun l i h => by simp, fun a l i h => by simp, fun a l h => by simp, fun l i a => by simp, fun a b l => rfl, fun a b l i => rfl⟩
end Go.Proofs.YtijhamllnnilbaaGreatDoor.Ra
namespace Go.Proofs.YtijhamllnnilbaaGreatDoor.Pg
open Go.RowKit Go.Proofs.YtijhamllnnilbaaGreatDoor.Mem

abbrev str (l : List UInt8) : ByteArray := ⟨l.toArray⟩
theorem str_size (l : List UInt8) : (str l).size = l.length := by simp [ByteArray.size]
theorem str_of (s : ByteArray) : s = str s.data.toList := by cases s; rfl
theorem repeat_one (c : UInt8) (n : Nat) : Lib.repeatL [c] n = List.replicate n c := by
 induction n with
 | zero => rfl
 | succ n ih => rw [Lib.repeatL, ih]; rfl

def zs (n : Nat) : List UInt8 := List.replicate n 0

theorem zeros_any (n : Nat) (w : World) (hn : n ≤ 100000) :
 Calls Tryz.prog 131 #[.int .i64 n] w fun e w' => e = .returned (.string (str (zs n))) ∧ Below w.heap.size w w' := by
 go_enter Tryz.func131, Tryz.ntmps131
 go_wp2_with (go_at_call 186; refine (Tryz.strings_Repeat ⟨#[0]⟩ n _ (by omega) (by show 1 * n ≤ _; omega)).mono ?_; rintro e w' ⟨rfl, hb⟩)
 go_ret
 refine ⟨?_, hb⟩
 rw [zs, ← repeat_one]
 rfl

theorem empty_any (k d : Int) (w : World) :
 Calls Tryz.prog 85 #[.int .i64 k, .int .i64 d] w fun e w' => e = .returned (.agg #[.int .i64 k, .int .i64 d, .int .i64 0, .string (str (zs 240))]) ∧ Below w.heap.size w w' := by
 go_enter Tryz.func85, Tryz.ntmps85
 have hz := fun w => zeros_any 240 w (by omega)
 go_wp2_with fail
 refine (hz _).mono ?_
 rintro e w1 ⟨rfl, hb1⟩
 have hblk := blk_below hb1
 have hc := blk_cell hblk
 have hf := blk_free hblk
 have hsz := lt_of_block hblk
 have hbw := below_tr (below_al (Below.refl _ w) _) hb1
 clear hb1 hz
 go_wp2
 refine bodyPost_ret (v := .agg #[.int .i64 k, .int .i64 d, .int .i64 0, .string (str (zs 240))]) (by simp [results, Tryz.results85, go_sem, hc]) rfl ⟨rfl, ?_⟩
 exact below_set (below_set (below_set (below_set hbw (Nat.le_refl _)) (Nat.le_refl _)) (Nat.le_refl _)) (Nat.le_refl _)
end Go.Proofs.YtijhamllnnilbaaGreatDoor.Pg
namespace Go.Proofs.YtijhamllnnilbaaGreatDoor.Kp
open Go.RowKit Go.Proofs.YtijhamllnnilbaaGreatDoor.Mem

structure Keep (S : Nat → Prop) (w w' : World) : Prop where
 os : w'.os = w.os
 tape : w'.tape = w.tape
 output : w'.output = w.output
 size : w.heap.size ≤ w'.heap.size
 block : ∀ i, i < w.heap.size → ¬ S i → w'.heap[i]? = w.heap[i]?
variable {S T : Nat → Prop} {w a b c : World}
theorem Keep.refl (S : Nat → Prop) (w : World) : Keep S w w := ⟨rfl, rfl, rfl, Nat.le_refl _, fun _ _ _ => rfl⟩
theorem Keep.trans (h : Keep S a b) (k : Keep S b c) : Keep S a c :=
 ⟨k.os.trans h.os, k.tape.trans h.tape, k.output.trans h.output, Nat.le_trans h.size k.size, fun i hi hs => (k.block i (Nat.lt_of_lt_of_le hi h.size) hs).trans (h.block i hi hs)⟩
theorem Keep.mono (h : Keep S a b) (k : ∀ i, S i → T i) : Keep T a b := ⟨h.os, h.tape, h.output, h.size, fun i hi hs => h.block i hi (fun h' => hs (k i h'))⟩
theorem Keep.of_below (h : Below a.heap.size a b) : Keep S a b := ⟨h.os, h.tape, h.output, h.size, fun i hi _ => h.block i hi⟩
theorem Keep.below (h : Keep S a b) (k : Below b.heap.size b c) : Keep S a c := h.trans (.of_below k)
theorem Keep.alloc (h : Keep S a b) (o : Obj) : Keep S a (b.alloc o) := h.below (below_al (Below.refl _ b) o)
theorem Keep.drew (h : Keep S a b) : Keep S a b.drew := ⟨h.os, h.tape, h.output, h.size, h.block⟩
theorem Keep.grown {row : Option Nat} (h : a.grownBy b row) (k : ∀ j, row = some j → S j) : Keep S a b := ⟨h.os, h.tape, h.output, h.size, fun i hi hs => h.block i hi (fun e => hs (k i e.symm))⟩
theorem Keep.setCell (h : Keep S a b) {g j : Nat} (k : S g ∨ a.heap.size ≤ g) (u : Value) : Keep S a (b.setCell ⟨g, j, none⟩ u) :=
 ⟨h.os, h.tape, h.output, by simpa using h.size, fun i hi hs => by
  rw [heap_setCell_other _ _ _ _ (show i ≠ g from fun e => by subst e; rcases k with k | k; exact hs k; omega)]
  exact h.block i hi hs⟩
theorem Keep.trans' (h : Keep S a b) (k : Keep T b c) (hk : ∀ i, T i → S i ∨ a.heap.size ≤ i) : Keep S a c :=
 ⟨k.os.trans h.os, k.tape.trans h.tape, k.output.trans h.output, Nat.le_trans h.size k.size, fun i hi hs => (k.block i (Nat.lt_of_lt_of_le hi h.size) (fun ht => by rcases hk i ht with h1 | h1; exact hs h1; omega)).trans (h.block i hi hs)⟩
theorem Keep.blk (h : Keep S a b) {g : Nat} {X : Obj} (hx : a.heap[g]? = some X) (hg : ¬ S g) : b.heap[g]? = some X := (h.block g (lt_of_block hx) hg).trans hx
theorem Keep.cell (h : Keep S a b) {g o : Nat} (hlt : g < a.heap.size) (hg : ¬ S g) : b.cell? ⟨g, o, none⟩ = a.cell? ⟨g, o, none⟩ := by
 unfold World.cell?
 simp only [h.block g hlt hg]
theorem Keep.to_below (h : Keep S a b) {B : Nat} (hB : B ≤ a.heap.size) (hs : ∀ i, S i → B ≤ i) : Below B a b :=
 ⟨h.os, h.tape, h.output, h.size, fun i hi => h.block i (by omega) (fun h' => by have := hs i h'; omega)⟩
theorem Keep.row (h : Keep S a b) {base : Nat} {e : TypeId} {size n : Nat} {v : Value} {xs : List Value} (hr : a.ownsRow base e size v n xs) (hg : ∀ g, v.ownBlock = some g → ¬ S g) : b.ownsRow base e size v n xs := by
 refine ⟨hr.1, ?_⟩
 rcases hr.2 with h2 | ⟨g, cap, cur, rfl, h2, h3, h4⟩
 · exact .inl h2
 · exact .inr ⟨g, cap, cur, rfl, h2, (h.blk h3 (hg g rfl)), h4⟩
theorem row_mono {w : World} {base B : Nat} {e : TypeId} {size n : Nat} {v : Value} {xs : List Value} (h : w.ownsRow base e size v n xs) (hb : B ≤ base) : w.ownsRow B e size v n xs := by
 refine ⟨h.1, ?_⟩
 rcases h.2 with h2 | ⟨g, cap, cur, h1, h2, h3⟩
 · exact .inl h2
 · exact .inr ⟨g, cap, cur, h1, Nat.le_trans hb h2, h3⟩
theorem row_ge {w : World} {base : Nat} {e : TypeId} {size n : Nat} {v : Value} {xs : List Value} (h : w.ownsRow base e size v n xs) (g : Nat) (hg : v.ownBlock = some g) : base ≤ g := own_base h g hg
end Go.Proofs.YtijhamllnnilbaaGreatDoor.Kp
namespace Go.Proofs.YtijhamllnnilbaaGreatDoor.Gr
open Go.RowKit Go.Proofs.YtijhamllnnilbaaGreatDoor.Mem Go.Proofs.YtijhamllnnilbaaGreatDoor.Pg Go.Proofs.YtijhamllnnilbaaGreatDoor.Kp

structure Pag where
 k : Int
 d : Int
 x : Int
 l : List UInt8
def Pag.ok (p : Pag) : Prop := 0 ≤ p.k ∧ p.k < 6 ∧ 0 ≤ p.d ∧ p.d ≤ 5 ∧ 0 ≤ p.x ∧ p.x < 64 ∧ p.l.length = 240
instance (p : Pag) : Decidable p.ok := by unfold Pag.ok; infer_instance
def Pag.v (p : Pag) : Value := .agg #[.int .i64 p.k, .int .i64 p.d, .int .i64 p.x, .string (str p.l)]
def hd (k d x : Nat) : List UInt8 := [80, 71, UInt8.ofNat k, UInt8.ofNat d, 0, UInt8.ofNat x]
def Pag.bytes (p : Pag) : List UInt8 := hd p.k.toNat p.d.toNat p.x.toNat ++ zs 10 ++ p.l
def Pag.zero : Pag := ⟨0, 0, 0, zs 240⟩
def Shows (b : List UInt8) (p : Pag) : Prop := (p.ok ∧ b = p.bytes) ∨ (b = zs 256 ∧ p = Pag.zero)

theorem zs_len (n : Nat) : (zs n).length = n := List.length_replicate
theorem Pag.bytes_len {p : Pag} (h : p.ok) : p.bytes.length = 256 := by
 have := h.2.2.2.2.2.2
 simp [Pag.bytes, hd, zs_len, this]
theorem Shows.len {b : List UInt8} {p : Pag} (h : Shows b p) : b.length = 256 := by
 rcases h with ⟨h, rfl⟩ | ⟨rfl, _⟩
 · exact Pag.bytes_len h
 · exact zs_len 256
theorem Pag.zero_ok : Pag.zero.ok := by
 refine ⟨?_, ?_, ?_, ?_, ?_, ?_, zs_len 240⟩ <;> simp [Pag.zero]
theorem Shows.ok {b : List UInt8} {p : Pag} (h : Shows b p) : p.ok := by
 rcases h with ⟨h, rfl⟩ | ⟨_, rfl⟩
 · exact h
 · exact Pag.zero_ok
theorem Pag.bytes_head (p : Pag) : p.bytes[0]? = some 80 := by simp [Pag.bytes, hd]
theorem Pag.bytes_ne (p : Pag) : p.bytes ≠ zs 256 := fun h => by
 have h1 := p.bytes_head
 rw [h, zs, List.getElem?_replicate, if_pos (by omega)] at h1
 simp at h1
theorem Pag.body {p : Pag} : p.bytes.drop 16 = p.l := by
 have h1 : (hd p.k.toNat p.d.toNat p.x.toNat ++ zs 10).length = 16 := by simp [hd, zs_len]
 rw [Pag.bytes, ← h1, List.drop_left]
theorem Pag.at2 (p : Pag) : p.bytes[2]? = some (UInt8.ofNat p.k.toNat) := by simp [Pag.bytes, hd]
theorem Pag.at3 (p : Pag) : p.bytes[3]? = some (UInt8.ofNat p.d.toNat) := by simp [Pag.bytes, hd]
theorem Pag.at4 (p : Pag) : p.bytes[4]? = some 0 := by simp [Pag.bytes, hd]
theorem Pag.at5 (p : Pag) : p.bytes[5]? = some (UInt8.ofNat p.x.toNat) := by simp [Pag.bytes, hd]
theorem small_nat {a : Int} (h0 : 0 ≤ a) (h1 : a < 256) : (((UInt8.ofNat a.toNat).toNat : Nat) : Int) = a := by
 rw [UInt8.toNat_ofNat', Nat.mod_eq_of_lt (by omega)]
 omega
def Tab (w : World) : Prop := Lib.TabIs Tryz.prog w "strings.asciiSpace" .u8 Lib.asciiSpaceTab
noncomputable def gtab : Nat := (Tryz.prog.globalNamed "strings.asciiSpace").getD 0
theorem gtab_eq : Tryz.prog.globalNamed "strings.asciiSpace" = some gtab := by
 have h : (Tryz.prog.globalNamed "strings.asciiSpace").isSome = true := by kernel_rfl
 rcases e : Tryz.prog.globalNamed "strings.asciiSpace" with _ | g
 · rw [e] at h; cases h
 · rw [gtab, e]; rfl
theorem Tab.lt {w : World} (h : Tab w) : gtab < w.heap.size := by
 unfold Tab Lib.TabIs World.var? at h
 rw [gtab_eq] at h
 simp only [Option.bind_some] at h
 rcases Nat.lt_or_ge gtab w.heap.size with k | k
 · exact k
 · rw [Array.getElem?_eq_none k] at h
   cases h
theorem Tab.of_block {w w' : World} (h : Tab w) (e : w'.heap[gtab]? = w.heap[gtab]?) : Tab w' := by
 unfold Tab Lib.TabIs World.var? at h ⊢
 rw [gtab_eq] at h ⊢
 simp only [Option.bind_some] at h ⊢
 rw [e]
 exact h
theorem Tab.below {w w' : World} (h : Tab w) (k : Below w.heap.size w w') : Tab w' := h.of_block (k.block _ h.lt)
theorem Tab.keep {w w' : World} {S : Nat → Prop} (h : Tab w) (k : Keep S w w') (hs : ¬ S gtab) : Tab w' := h.of_block (k.block _ h.lt hs)
theorem Tab.alloc {w : World} (h : Tab w) (o : Obj) : Tab (w.alloc o) := h.below (below_al (Below.refl _ w) o)
theorem Tab.drew {w : World} (h : Tab w) : Tab w.drew := h
end Go.Proofs.YtijhamllnnilbaaGreatDoor.Gr
namespace Go.Proofs.YtijhamllnnilbaaGreatDoor.Ha
open Go.RowKit Go.Proofs.YtijhamllnnilbaaGreatDoor.Mem Go.Proofs.YtijhamllnnilbaaGreatDoor.Pg Go.Proofs.YtijhamllnnilbaaGreatDoor.Gr
set_option linter.unusedVariables false
set_option linter.unusedSimpArgs false

def sumN (h : Nat) : List UInt8 → Nat
 | [] => h
 | b :: l => sumN (((h ^^^ b.toNat) * 16777619) % 4294967296) l
def sumF (l : List UInt8) : Nat := sumN 2166136261 l
def bitsF (l : List UInt8) (d : Nat) : Nat := sumF l % 2 ^ d
theorem sumN_lt (h : Nat) (hh : h < 4294967296) : ∀ l, sumN h l < 4294967296 := by
 intro l
 induction l generalizing h with
 | nil => exact hh
 | cons b l ih => exact ih _ (Nat.mod_lt _ (by omega))
theorem sumF_lt (l : List UInt8) : sumF l < 4294967296 := sumN_lt _ (by omega) l
theorem sumN_append (h : Nat) (l m : List UInt8) : sumN h (l ++ m) = sumN (sumN h l) m := by
 induction l generalizing h with
 | nil => rfl
 | cons b l ih => exact ih _

structure Cel where
 key : List UInt8
 val : List UInt8
 blob : Nat
 size : Nat
def keyOk (l : List UInt8) : Prop := l ≠ [] ∧ l.length ≤ 16
instance (l : List UInt8) : Decidable (keyOk l) := inferInstanceAs (Decidable (_ ∧ _))
structure Cel.ok (c : Cel) : Prop where
 key : keyOk c.key
 rest : (c.blob = 0 ∧ c.val.length ≤ 40 ∧ c.size = 0) ∨ (2 ≤ c.blob ∧ c.blob < 64 ∧ c.val = [] ∧ 40 < c.size ∧ c.size ≤ 400)
def Cel.cells (c : Cel) : List Value := [.string (str c.key), .string (str c.val), .int .i64 c.blob, .int .i64 c.size]
def Cel.v (c : Cel) : Value := .agg #[.string (str c.key), .string (str c.val), .int .i64 c.blob, .int .i64 c.size]
def flatC (l : List Cel) : List Value := l.flatMap Cel.cells
theorem flatC_len (l : List Cel) : (flatC l).length = l.length * 4 := by
 induction l with
 | nil => rfl
 | cons a l ih => simp [flatC, Cel.cells] at ih ⊢; omega
theorem flatC_append (l m : List Cel) : flatC (l ++ m) = flatC l ++ flatC m := by simp [flatC]
theorem flatC_at {l : List Cel} {j : Nat} (hj : j < l.length) (r : Nat) (hr : r < 4) : (flatC l)[j * 4 + r]? = (l[j].cells)[r]? := by
 induction l generalizing j with
 | nil => simp at hj
 | cons a l ih =>
  have hf : flatC (a :: l) = a.cells ++ flatC l := by simp [flatC]
  have ha : a.cells.length = 4 := rfl
  rcases j with _ | j
  · rw [hf, List.getElem?_append_left (by omega)]
    simp
  · rw [hf, List.getElem?_append_right (by omega)]
    have e : (j + 1) * 4 + r - a.cells.length = j * 4 + r := by omega
    rw [e, ih (by simpa using hj)]
    simp
def Cel.sz (c : Cel) : Nat := 4 + c.key.length + (if c.blob = 0 then c.val.length else 2)
def num2 (n : Nat) : List UInt8 := [UInt8.ofNat (n / 256), UInt8.ofNat (n % 256)]
def Cel.enc (c : Cel) : List UInt8 := UInt8.ofNat c.key.length :: c.key ++ (if c.blob = 0 then 0 :: num2 c.val.length ++ c.val else 1 :: num2 c.size ++ num2 c.blob)
theorem Cel.enc_len (c : Cel) : c.enc.length = c.sz := by
 unfold Cel.enc Cel.sz num2
 split <;> simp <;> first | done | omega
def encs (l : List Cel) : List UInt8 := l.flatMap Cel.enc
theorem encs_append (l m : List Cel) : encs (l ++ m) = encs l ++ encs m := by simp [encs]
def szs (l : List Cel) : Nat := (l.map Cel.sz).sum
theorem encs_len (l : List Cel) : (encs l).length = szs l := by
 induction l with
 | nil => rfl
 | cons a l ih =>
  simp [encs, szs, Cel.enc_len] at ih ⊢
  first | done | omega
theorem szs_append (l m : List Cel) : szs (l ++ m) = szs l + szs m := by simp [szs]
theorem szs_ge (l : List Cel) : 4 * l.length ≤ szs l := by
 induction l with
 | nil => simp [szs]
 | cons a l ih => simp [szs, Cel.sz] at ih ⊢; omega
structure Fits (l : List Cel) : Prop where
 ok : ∀ c, c ∈ l → c.ok
 lt : l.Pairwise (fun a b => a.key < b.key)
 room : szs l ≤ 239
theorem Fits.len {l : List Cel} (h : Fits l) : l.length ≤ 59 := by
 have := szs_ge l
 have := h.room
 omega
def bodyF (l : List Cel) : List UInt8 := UInt8.ofNat l.length :: encs l ++ zs (239 - szs l)
theorem bodyF_len {l : List Cel} (h : Fits l) : (bodyF l).length = 240 := by
 have := h.room
 simp [bodyF, encs_len, zs_len]
 omega
theorem bodyF_nil : bodyF [] = zs 240 := by
 show (0 : UInt8) :: ([] ++ zs 239) = zs 240
 rfl
theorem fits_nil : Fits [] := ⟨(fun c h => by cases h), List.Pairwise.nil, (by simp [szs])⟩
theorem cmp_lt_iff : ∀ a b : List UInt8, Lib.compareBytes a b < 0 ↔ a < b
 | [], [] => by simp [Lib.compareBytes]
 | [], _ :: _ => by simp [Lib.compareBytes]
 | _ :: _, [] => by simp [Lib.compareBytes]
 | x :: a, y :: b => by
  unfold Lib.compareBytes
  rw [List.cons_lt_cons_iff]
  by_cases h1 : x < y
  · simp [h1]
  · by_cases h2 : y < x
    · have hne : x ≠ y := fun e => by subst e; exact UInt8.lt_irrefl x h2
      simp [h1, h2, hne]
    · have hxy : x = y := by
       have := UInt8.not_lt.1 h1
       have := UInt8.not_lt.1 h2
       exact UInt8.le_antisymm (by assumption) (by assumption)
      simp [h1, h2, hxy, cmp_lt_iff a b]
theorem cmp_eq_iff : ∀ a b : List UInt8, Lib.compareBytes a b = 0 ↔ a = b
 | [], [] => by simp [Lib.compareBytes]
 | [], _ :: _ => by simp [Lib.compareBytes]
 | _ :: _, [] => by simp [Lib.compareBytes]
 | x :: a, y :: b => by
  unfold Lib.compareBytes
  by_cases h1 : x < y
  · have hne : x ≠ y := fun e => by subst e; exact UInt8.lt_irrefl x h1
    simp [h1, hne]
  · by_cases h2 : y < x
    · have hne : x ≠ y := fun e => by subst e; exact UInt8.lt_irrefl x h2
      simp [h1, h2, hne]
    · have hxy : x = y := by
       have := UInt8.not_lt.1 h1
       have := UInt8.not_lt.1 h2
       exact UInt8.le_antisymm (by assumption) (by assumption)
      simp [h1, h2, hxy, cmp_eq_iff a b]
theorem list_lt_irrefl (a : List UInt8) : ¬ a < a := List.lt_irrefl a
theorem list_lt_trans {a b c : List UInt8} (h : a < b) (k : b < c) : a < c := List.lt_trans h k
theorem list_lt_total {a b : List UInt8} (h : ¬ a < b) (hne : a ≠ b) : b < a := by
 rcases Std.lt_trichotomy a b with h1 | h1 | h1
 · exact absurd h1 h
 · exact absurd h1 hne
 · exact h1
end Go.Proofs.YtijhamllnnilbaaGreatDoor.Ha
