/- Worlds that differ in certain blocks alone (those of the objects that a callee may write) and in new ones. -/
import Derived.Test.YtibbmmkjienekaaDoorMem
namespace Go.Proofs.YtibbmmkjienekaaDoor.Kp
open Go.RowKit Go.Proofs.YtibbmmkjienekaaDoor.Mem

/-- Of the blocks that were there only those in S have been written. -/
structure Keep (S : Nat → Prop) (w w' : World) : Prop where
  os : w'.os = w.os
  tape : w'.tape = w.tape
  output : w'.output = w.output
  size : w.heap.size ≤ w'.heap.size
  block : ∀ i, i < w.heap.size → ¬ S i → w'.heap[i]? = w.heap[i]?
variable {S T : Nat → Prop} {w a b c : World}
theorem Keep.refl (S : Nat → Prop) (w : World) : Keep S w w := ⟨rfl, rfl, rfl, Nat.le_refl _, fun _ _ _ => rfl⟩
theorem Keep.trans (h : Keep S a b) (k : Keep S b c) : Keep S a c :=
  ⟨k.os.trans h.os, k.tape.trans h.tape, k.output.trans h.output, Nat.le_trans h.size k.size, fun i hi hs => (k.block i (Nat.lt_of_lt_of_le hi h.size) hs).trans (h.block i hi hs)⟩
theorem Keep.mono (h : Keep S a b) (k : ∀ i, S i → T i) : Keep T a b := ⟨h.os, h.tape, h.output, h.size, fun i hi hs => h.block i hi (fun h' => hs (k i h'))⟩
theorem Keep.of_below (h : Below a.heap.size a b) : Keep S a b := ⟨h.os, h.tape, h.output, h.size, fun i hi _ => h.block i hi⟩
theorem Keep.below (h : Keep S a b) (k : Below b.heap.size b c) : Keep S a c := h.trans (.of_below k)
theorem Keep.alloc (h : Keep S a b) (o : Obj) : Keep S a (b.alloc o) := h.below (below_al (Below.refl _ b) o)
theorem Keep.drew (h : Keep S a b) : Keep S a b.drew := ⟨h.os, h.tape, h.output, h.size, h.block⟩
theorem Keep.drewN (h : Keep S a b) (n : Nat) : Keep S a (b.drewN n) := ⟨h.os, h.tape, h.output, h.size, h.block⟩
theorem Keep.grown {row : Option Nat} (h : a.grownBy b row) (k : ∀ j, row = some j → S j) : Keep S a b := ⟨h.os, h.tape, h.output, h.size, fun i hi hs => h.block i hi (fun e => hs (k i e.symm))⟩
/-- An object of the caller's own is kept with the rest: what was laid behind a is nobody's concern. -/
theorem Keep.setCell (h : Keep S a b) {g j : Nat} (k : S g ∨ a.heap.size ≤ g) (u : Value) : Keep S a (b.setCell ⟨g, j, none⟩ u) :=
  ⟨h.os, h.tape, h.output, by simpa using h.size, fun i hi hs => by
    rw [heap_setCell_other _ _ _ _ (show i ≠ g from fun e => by subst e; rcases k with k | k; exact hs k; omega)]
    exact h.block i hi hs⟩
/-- From the world behind a callee's start, whose own S may also hold blocks that are new since a. -/
theorem Keep.trans' (h : Keep S a b) (k : Keep T b c) (hk : ∀ i, T i → S i ∨ a.heap.size ≤ i) : Keep S a c :=
  ⟨k.os.trans h.os, k.tape.trans h.tape, k.output.trans h.output, Nat.le_trans h.size k.size, fun i hi hs => (k.block i (Nat.lt_of_lt_of_le hi h.size) (fun ht => by rcases hk i ht with h1 | h1; exact hs h1; omega)).trans (h.block i hi hs)⟩
theorem Keep.blk (h : Keep S a b) {g : Nat} {X : Obj} (hx : a.heap[g]? = some X) (hg : ¬ S g) : b.heap[g]? = some X := (h.block g (lt_of_block hx) hg).trans hx
theorem Keep.cell (h : Keep S a b) {g o : Nat} (hlt : g < a.heap.size) (hg : ¬ S g) : b.cell? ⟨g, o, none⟩ = a.cell? ⟨g, o, none⟩ := by
  unfold World.cell?
  simp only [h.block g hlt hg]
theorem Keep.to_below (h : Keep S a b) {B : Nat} (hB : B ≤ a.heap.size) (hs : ∀ i, S i → B ≤ i) : Below B a b :=
  ⟨h.os, h.tape, h.output, h.size, fun i hi => h.block i (by omega) (fun h' => by have := hs i h'; omega)⟩
theorem Keep.row (h : Keep S a b) {base : Nat} {e : TypeId} {size n : Nat} {v : Value} {xs : List Value} (hr : a.ownsRow base e size v n xs) (hg : ∀ g, v.ownBlock = some g → ¬ S g) : b.ownsRow base e size v n xs := by
  refine ⟨hr.1, ?_⟩
  rcases hr.2 with h2 | ⟨g, cap, cur, rfl, h2, h3, h4⟩
  · exact .inl h2
  · exact .inr ⟨g, cap, cur, rfl, h2, (h.blk h3 (hg g rfl)), h4⟩
theorem row_mono {w : World} {base B : Nat} {e : TypeId} {size n : Nat} {v : Value} {xs : List Value} (h : w.ownsRow base e size v n xs) (hb : B ≤ base) : w.ownsRow B e size v n xs := by
  refine ⟨h.1, ?_⟩
  rcases h.2 with h2 | ⟨g, cap, cur, h1, h2, h3⟩
  · exact .inl h2
  · exact .inr ⟨g, cap, cur, h1, Nat.le_trans hb h2, h3⟩
theorem row_ge {w : World} {base : Nat} {e : TypeId} {size n : Nat} {v : Value} {xs : List Value} (h : w.ownsRow base e size v n xs) (g : Nat) (hg : v.ownBlock = some g) : base ≤ g := own_base h g hg
end Go.Proofs.YtibbmmkjienekaaDoor.Kp
