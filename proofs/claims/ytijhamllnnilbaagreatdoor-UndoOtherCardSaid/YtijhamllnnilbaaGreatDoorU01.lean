/- Lemmas of the claim, in their order:
- Small lemmas on worlds and rows that the call itself owns.
- Contracts of package page's zeros and Empty, and small lemmas on strings as lists of bytes.
-/
import Derived.WalkKit
import Derived.Lib.Hide
import Derived.Deep.Draws
import Derived.Laws.OwnMore
import Derived.Maps.AppendAt
import Derived.Deep.OwnRows
import Derived.Deep.AppendLies
import Derived.OrdersHeld
import Derived.Deep.RegionHeld
import Derived.Test.YtijhamllnnilbaaGreatDoorShelf
import Derived.KernelRfl
import Derived.Outline
import Derived.Lib.Repeat
import Derived.RegionTactic
import Derived.ChangeAlike
set_option linter.unusedVariables false
set_option linter.unusedSimpArgs false
namespace Go.Proofs.YtijhamllnnilbaaGreatDoor.Mem
open Go.RowKit

theorem below_tr {a b c : World} (h : Below a.heap.size a b) (k : Below b.heap.size b c) : Below a.heap.size a c := h.trans (k.mono h.size)
theorem below_al {a b : World} (h : Below a.heap.size a b) (o : Obj) : Below a.heap.size a (b.alloc o) := h.alloc h.size o
theorem below_dr {B : Nat} {a b : World} (h : Below B a b) : Below B a b.drew := h.drew
theorem below_drN {B : Nat} {a b : World} (h : Below B a b) (n : Nat) : Below B a (b.drewN n) := ⟨h.os, h.tape, h.output, h.size, h.block⟩
/-- From a base on. -/
theorem below_base {B : Nat} {w a b : World} (h : Below B w a) (hB : B ≤ a.heap.size) (k : Below a.heap.size a b) : Below B w b := h.trans (k.mono hB)

theorem grown_of_below {w w1 : World} (h : Below w.heap.size w w1) (row : Option Nat) : w.grownBy w1 row := ⟨h.os, h.tape, h.output, h.size, fun i hi _ => h.block i hi⟩
theorem own_below {w w1 : World} {base : Nat} {e : TypeId} {size n : Nat} {v : Value} {xs : List Value} (h : w.ownsRow base e size v n xs) (hb : Below w.heap.size w w1) : w1.ownsRow base e size v n xs :=
  h.kept (grown_of_below hb none) (by cases v.ownBlock <;> simp)
theorem own_base {w : World} {base : Nat} {e : TypeId} {size n : Nat} {v : Value} {xs : List Value} (h : w.ownsRow base e size v n xs) (k : Nat) (hk : v.ownBlock = some k) : base ≤ k := by
  rcases h.2 with ⟨rfl, _⟩ | ⟨g, cap, cur, rfl, hb, _⟩
  · simp [Value.ownBlock] at hk
  · have : g = k := by simpa [Value.ownBlock] using hk
    omega
theorem own_lt {w : World} {base : Nat} {e : TypeId} {size n : Nat} {v : Value} {xs : List Value} (h : w.ownsRow base e size v n xs) (k : Nat) (hk : v.ownBlock = some k) : k < w.heap.size := by
  rcases h.2 with ⟨rfl, _⟩ | ⟨g, cap, cur, rfl, hb, hh, _⟩
  · simp [Value.ownBlock] at hk
  · have : g = k := by simpa [Value.ownBlock] using hk
    subst this
    exact (Array.getElem?_eq_some_iff.1 hh).1
/-- Behind an append onto a row of the call's own. -/
theorem below_grown {B : Nat} {w a b : World} (h : Below B w a) (hB : B ≤ a.heap.size) {e : TypeId} {size n : Nat} {v : Value} {xs : List Value} {wo : World} (ho : wo.ownsRow B e size v n xs) (hg : a.grownBy b v.ownBlock) : Below B w b :=
  h.grown hg hB (fun k hk => own_base ho k hk)
theorem own_slice {w : World} {base n : Nat} {e : TypeId} {size : Nat} {v : Value} {xs : List Value} (h : w.ownsRow base e size v n xs) : ∃ A c, v = .slice A n c := by
  rcases h.2 with ⟨rfl, rfl⟩ | ⟨g, cap, cur, rfl, _⟩
  · exact ⟨none, 0, rfl⟩
  · exact ⟨_, cap, rfl⟩
theorem cells_one (W : World) (y : Value) (e : TypeId) : ∀ j u, [y][j]? = some u → (W.alloc (.cells #[y] e)).cell? ((⟨W.heap.size, 0, none⟩ : Addr).add j) = some u := by
  intro j u hj
  match j, hj with
  | 0, hj =>
    simp at hj
    subst hj
    simp [Addr.add]

/-- The cells of a block that has just been laid, whatever their number. -/
theorem cells_new (W : World) (g : Nat) (hg : g = W.heap.size) (cs : List Value) (e : TypeId) : ∀ j u, cs[j]? = some u → (W.alloc (.cells cs.toArray e)).cell? ((⟨g, 0, none⟩ : Addr).add j) = some u := by
  intro j u hj
  subst hg
  have ha : (⟨W.heap.size, 0, none⟩ : Addr).add j = ⟨W.heap.size, j, none⟩ := by unfold Addr.add; split <;> simp_all
  rw [ha, cell_of_row _ _ _ _ _ _ (heap_alloc_new W _)]
  simpa using hj
theorem own_at {w : World} {base n g cap m : Nat} {e : TypeId} {size : Nat} {xs : List Value} (h : w.ownsRow base e size (.slice (some ⟨g, 0, none⟩) m cap) n xs) (j : Nat) (u : Value) (hj : xs[j]? = some u) : w.cell? ⟨g, j, none⟩ = some u := by
  have hc := h.cells (g := g) rfl j u hj
  have ha : (⟨g, 0, none⟩ : Addr).add j = ⟨g, j, none⟩ := by unfold Addr.add; split <;> simp_all
  rwa [ha] at hc
theorem own_free {w : World} {base n g cap m : Nat} {e : TypeId} {size : Nat} {xs : List Value} (h : w.ownsRow base e size (.slice (some ⟨g, 0, none⟩) m cap) n xs) (j : Nat) : w.frozen? ⟨g, j, none⟩ = false := by
  rcases h.2 with ⟨h0, _⟩ | ⟨g', cap', cur, h0, _, hh, _⟩
  · cases h0
  · injection h0 with h1 _ _
    injection h1 with h1
    injection h1 with h1 _ _
    subst h1
    simp [World.frozen?, hh]
/-- A block below a row's base, behind an append onto the row. -/
theorem keep_grown {W w4 wo : World} {b n k : Nat} {e : TypeId} {size : Nat} {v : Value} {xs : List Value} {X : Obj} (hown : wo.ownsRow b e size v n xs) (hg : W.grownBy w4 v.ownBlock) (hk : k < b) (h : W.heap[k]? = some X) : w4.heap[k]? = some X := by
  rw [hg.block k (lt_of_block h) (fun he => by have := own_base hown k he.symm; omega)]
  exact h
theorem lt_al {w : World} {g : Nat} (h : g < w.heap.size) (o : Obj) : g < (w.alloc o).heap.size := by simp; omega
theorem below_set {B g j : Nat} {a b : World} {u : Value} (h : Below B a b) (hg : B ≤ g) : Below B a (b.setCell ⟨g, j, none⟩ u) := h.setCell (p := ⟨g, j, none⟩) hg u
/-- A block that the call has made, behind a callee. -/
theorem blk_below {w w1 : World} {cs : Array Value} {t : TypeId} (hb : Below (w.alloc (.cells cs t)).heap.size (w.alloc (.cells cs t)) w1) : w1.heap[w.heap.size]? = some (.cells cs t (0, 0)) := by
  rw [hb.block _ (by simp)]
  exact heap_alloc_new w _
theorem blk_keep {w w1 : World} {g : Nat} {X : Obj} (h : w.heap[g]? = some X) (hb : Below w.heap.size w w1) : w1.heap[g]? = some X := by
  rw [hb.block g (lt_of_block h)]
  exact h
theorem blk2_below {w w1 : World} {cs ds : Array Value} {t u : TypeId} (hb : Below ((w.alloc (.cells cs t)).alloc (.cells ds u)).heap.size ((w.alloc (.cells cs t)).alloc (.cells ds u)) w1) :
    w1.heap[w.heap.size]? = some (.cells cs t (0, 0)) ∧ w1.heap[w.heap.size + 1]? = some (.cells ds u (0, 0)) := by
  constructor
  · rw [hb.block _ (by simp; omega), heap_alloc_old _ _ (by simp)]
    exact heap_alloc_new w _
  · rw [hb.block _ (by simp)]
    have := heap_alloc_new (w.alloc (.cells cs t)) (.cells ds u)
    simpa using this
theorem set2_same {w : World} {g : Nat} {a b : Value} {t : TypeId} (h : w.heap[g]? = some (.cells #[a, b] t (0, 0))) (a' b' : Value) :
    ((w.setCell ⟨g, 0, none⟩ a').setCell ⟨g, 1, none⟩ b').heap[g]? = some (.cells #[a', b'] t (0, 0)) :=
  heap_setCell_same _ g 1 _ t b' (heap_setCell_same w g 0 _ t a' h)
/-- A struct of four cells stored. -/
abbrev set4 (w : World) (g : Nat) (a b c d : Value) : World := (((w.setCell ⟨g, 0, none⟩ a).setCell ⟨g, 1, none⟩ b).setCell ⟨g, 2, none⟩ c).setCell ⟨g, 3, none⟩ d
theorem set4_same {w : World} {g : Nat} {a b c d : Value} {t : TypeId} (h : w.heap[g]? = some (.cells #[a, b, c, d] t (0, 0))) (a' b' c' d' : Value) :
    (set4 w g a' b' c' d').heap[g]? = some (.cells #[a', b', c', d'] t (0, 0)) := by
  have h1 := heap_setCell_same w g 0 _ t a' h
  have h2 := heap_setCell_same _ g 1 _ t b' h1
  have h3 := heap_setCell_same _ g 2 _ t c' h2
  exact heap_setCell_same _ g 3 _ t d' h3
theorem set4_other (w : World) {g k : Nat} (h : k ≠ g) (a b c d : Value) : (set4 w g a b c d).heap[k]? = w.heap[k]? := by
  rw [heap_setCell_other _ _ _ _ h, heap_setCell_other _ _ _ _ h, heap_setCell_other _ _ _ _ h, heap_setCell_other _ _ _ _ h]
theorem below_set4 {B g : Nat} {x y : World} (h : Below B x y) (hg : B ≤ g) (a b c d : Value) : Below B x (set4 y g a b c d) :=
  below_set (below_set (below_set (below_set h hg) hg) hg) hg
theorem hal {w : World} {g : Nat} {X o : Obj} (h : w.heap[g]? = some X) : (w.alloc o).heap[g]? = some X := (heap_alloc_old w o (lt_of_block h)).trans h
theorem hs4 {w : World} {g k : Nat} {X : Obj} {a b c d : Value} (h : w.heap[k]? = some X) (hn : k ≠ g) : (set4 w g a b c d).heap[k]? = some X := (set4_other w hn a b c d).trans h
theorem blk_cell {w : World} {g : Nat} {cs : Array Value} {t : TypeId} (h : w.heap[g]? = some (.cells cs t (0, 0))) (j : Nat) : w.cell? ⟨g, j, none⟩ = cs[j]? := cell_of_row w g j cs t (0, 0) h
theorem blk_free {w : World} {g : Nat} {cs : Array Value} {t : TypeId} (h : w.heap[g]? = some (.cells cs t (0, 0))) (j : Nat) : w.frozen? ⟨g, j, none⟩ = false := by simp [World.frozen?, h]

def ints (l : List Int) : List Value := l.map (Value.int .i64)
/-- A slice of ints that is read. -/
def Ints (w : World) (A : Option Addr) (n : Nat) (xs : List Int) : Prop :=
  xs.length = n ∧ n ≤ 9223372036854775807 ∧ (0 < n → ∃ b off, A = some ⟨b, off, none⟩ ∧ b < w.heap.size ∧ ∀ j, j < n → w.cell? ⟨b, off + j, none⟩ = some (.int .i64 (xs.getD j 0)))
theorem Ints.below {w w1 : World} {A : Option Addr} {n : Nat} {xs : List Int} (h : Ints w A n xs) (hb : Below w.heap.size w w1) : Ints w1 A n xs :=
  ⟨h.1, h.2.1, fun h0 => by
    obtain ⟨b, off, hA, hlt, hc⟩ := h.2.2 h0
    exact ⟨b, off, hA, Nat.lt_of_lt_of_le hlt hb.size, fun j hj => (hb.cell hlt).trans (hc j hj)⟩⟩
theorem ints_of_own {w : World} {base n : Nat} {e : TypeId} {v : Value} {xs : List Int} (h : w.ownsRow base e 1 v n (ints xs)) : ∃ A c, v = .slice A n c ∧ Ints w A n xs := by
  have hl : xs.length = n := by have := h.1; simp [ints] at this; exact this
  rcases Nat.eq_zero_or_pos n with h0 | h0
  · obtain ⟨A, c, rfl⟩ := own_slice h
    exact ⟨A, c, rfl, hl, by omega, fun hp => absurd hp (by omega)⟩
  · obtain ⟨g, cap, rfl, _, hlt⟩ := h.form h0
    have hm : n ≤ 9223372036854775807 := by
      rcases h.2 with ⟨_, h1⟩ | ⟨g', cap', cur, he, _, _, h1, h2, _⟩
      · omega
      · simp only [maxLen] at h2
        omega
    refine ⟨_, cap, rfl, hl, hm, fun _ => ⟨g, 0, rfl, hlt, fun j hj => ?_⟩⟩
    have hc := h.cells (g := g) rfl j (.int .i64 (xs.getD j 0)) (by simp [ints, List.getElem?_eq_getElem (show j < xs.length by omega), List.getD_eq_getElem?_getD])
    have ha : (⟨g, 0, none⟩ : Addr).add j = ⟨g, 0 + j, none⟩ := by unfold Addr.add; split <;> simp_all
    rwa [ha] at hc
end Go.Proofs.YtijhamllnnilbaaGreatDoor.Mem
namespace Go.Proofs.YtijhamllnnilbaaGreatDoor.Ra
open Go
section
variable {P : Program} {ops : Array Oper} {Q : Exit → Act → World → Prop} {md : Region.Mode} {S : World → Prop}
/-- A quiet operation is taken first: number i, that yields v. -/
theorem W (i : Nat) (v : Value) {oi : Oper} {fuel : Nat} {listed : Array Bool} {a : Act} {w : World} (hv : ∀ w, S w → (execOp a.eval oi).run P w = .ok (.value v) w) (hS : S w)
    (h : wpAnyH P md ops Q S fuel (listed.setIfInBounds i true) (a.put oi.dst v) w) (hi : ops[i]? = some oi := by exact rfl) (hs : Region.noSelect ops = true := by kernel_rfl) (hf : Region.free md ops listed i = true := by kernel_rfl)
    (hr : (Region.ready md ops listed).contains i = true := by kernel_rfl) (hw : Region.wanted oi (yielded ops a.tmps) = true := by kernel_rfl) (hQ : ∀ c a w, Q (.panic c) (a.put oi.dst v) w → Q (.panic c) a w := by exact fun _ _ _ h => h) :
    wpAnyH P md ops Q S (fuel + 1) listed a w := wpAnyH_take hi hs hf hr hQ (.inl ⟨hw, hv⟩) hS h
/-- One that is guarded off. -/
theorem U (i : Nat) {oi : Oper} {fuel : Nat} {listed : Array Bool} {a : Act} {w : World} (hS : S w)
    (h : wpAnyH P md ops Q S fuel (listed.setIfInBounds i true) (a.put oi.dst undef) w) (hi : ops[i]? = some oi := by exact rfl) (hs : Region.noSelect ops = true := by kernel_rfl) (hf : Region.free md ops listed i = true := by kernel_rfl)
    (hr : (Region.ready md ops listed).contains i = true := by kernel_rfl) (hw : Region.wanted oi (yielded ops a.tmps) = false := by kernel_rfl) (hQ : ∀ c a w, Q (.panic c) (a.put oi.dst undef) w → Q (.panic c) a w := by exact fun _ _ _ h => h) :
    wpAnyH P md ops Q S (fuel + 1) listed a w := wpAnyH_take hi hs hf hr hQ (.inr ⟨hw, rfl⟩) hS h
end
end Go.Proofs.YtijhamllnnilbaaGreatDoor.Ra
namespace Go.Proofs.YtijhamllnnilbaaGreatDoor.Pg
open Go.RowKit Go.Proofs.YtijhamllnnilbaaGreatDoor.Mem

/-- A string of these bytes. -/
abbrev str (l : List UInt8) : ByteArray := ⟨l.toArray⟩
theorem str_size (l : List UInt8) : (str l).size = l.length := by simp [ByteArray.size]
theorem str_of (s : ByteArray) : s = str s.data.toList := by cases s; rfl
theorem repeat_one (c : UInt8) (n : Nat) : Lib.repeatL [c] n = List.replicate n c := by
  induction n with
  | zero => rfl
  | succ n ih => rw [Lib.repeatL, ih]; rfl

def zs (n : Nat) : List UInt8 := List.replicate n 0

theorem zeros_any (n : Nat) (w : World) (hn : n ≤ 100000) :
    Calls Tryz.prog 131 #[.int .i64 n] w fun e w' => e = .returned (.string (str (zs n))) ∧ Below w.heap.size w w' := by
  go_enter Tryz.func131, Tryz.ntmps131
  go_wp2_with (go_at_call 186; refine (Tryz.strings_Repeat ⟨#[0]⟩ n _ (by omega) (by show 1 * n ≤ _; omega)).mono ?_; rintro e w' ⟨rfl, hb⟩)
  go_ret
  refine ⟨?_, hb⟩
  rw [zs, ← repeat_one]
  rfl

theorem empty_any (k d : Int) (w : World) :
    Calls Tryz.prog 85 #[.int .i64 k, .int .i64 d] w fun e w' => e = .returned (.agg #[.int .i64 k, .int .i64 d, .int .i64 0, .string (str (zs 240))]) ∧ Below w.heap.size w w' := by
  go_enter Tryz.func85, Tryz.ntmps85
  have hz := fun w => zeros_any 240 w (by omega)
  go_wp2_with fail
  refine (hz _).mono ?_
  rintro e w1 ⟨rfl, hb1⟩
  have hblk := blk_below hb1
  have hc := blk_cell hblk
  have hf := blk_free hblk
  have hsz := lt_of_block hblk
  have hbw := below_tr (below_al (Below.refl _ w) _) hb1
  clear hb1 hz
  go_wp2
  refine bodyPost_ret (v := .agg #[.int .i64 k, .int .i64 d, .int .i64 0, .string (str (zs 240))]) (by simp [results, Tryz.results85, go_sem, hc]) rfl ⟨rfl, ?_⟩
  exact below_set (below_set (below_set (below_set hbw (Nat.le_refl _)) (Nat.le_refl _)) (Nat.le_refl _)) (Nat.le_refl _)
end Go.Proofs.YtijhamllnnilbaaGreatDoor.Pg
