/- The contract of the log's At: the record of a number. -/
import Derived.Test.YtlhmjmldndoekaaProg
import Derived.Test.YtlhmjmldndoekaaUndoPure
import Derived.WalkKit
import Derived.KernelRfl
import Derived.Outline
namespace Go.Proofs.Ytlhmjmldndoekaa.Undo
open Go.RowKit

/-- A record's cells: its kind, what it leads to, and the rest. -/
def IsRec (v : Array Value) (k p n : Int) : Prop :=
  ∃ (tx : Int) (s4 : ByteArray) (b5 : Bool) (s6 s7 : ByteArray) (x8 x9 : Int) (a10 : Option Addr) (n10 m10 : Nat) (a11 : Option Addr) (n11 m11 : Nat) (a12 : Option Addr) (n12 m12 : Nat) (a13 : Option Addr) (n13 m13 : Nat),
    v = #[.int .i64 k, .int .i64 tx, .int .i64 p, .int .i64 n, .string s4, .bool b5, .string s6, .string s7, .int .i64 x8, .int .i64 x9, .slice a10 n10 m10, .slice a11 n11 m11, .slice a12 n12 m12, .slice a13 n13 m13]

/-- Record i of a row of records at block b from off on. -/
def RecAt (w : World) (b off i : Nat) (k p n : Int) : Prop :=
  ∃ (tx : Int) (s4 : ByteArray) (b5 : Bool) (s6 s7 : ByteArray) (x8 x9 : Int) (a10 : Option Addr) (n10 m10 : Nat) (a11 : Option Addr) (n11 m11 : Nat) (a12 : Option Addr) (n12 m12 : Nat) (a13 : Option Addr) (n13 m13 : Nat),
    w.cell? ⟨b, off + i * 14, none⟩ = some (.int .i64 k) ∧ w.cell? ⟨b, off + i * 14 + 1, none⟩ = some (.int .i64 tx) ∧ w.cell? ⟨b, off + i * 14 + 2, none⟩ = some (.int .i64 p) ∧ w.cell? ⟨b, off + i * 14 + 3, none⟩ = some (.int .i64 n) ∧ w.cell? ⟨b, off + i * 14 + 4, none⟩ = some (.string s4) ∧ w.cell? ⟨b, off + i * 14 + 5, none⟩ = some (.bool b5) ∧ w.cell? ⟨b, off + i * 14 + 6, none⟩ = some (.string s6) ∧ w.cell? ⟨b, off + i * 14 + 7, none⟩ = some (.string s7) ∧ w.cell? ⟨b, off + i * 14 + 8, none⟩ = some (.int .i64 x8) ∧ w.cell? ⟨b, off + i * 14 + 9, none⟩ = some (.int .i64 x9) ∧ w.cell? ⟨b, off + i * 14 + 10, none⟩ = some (.slice a10 n10 m10) ∧ w.cell? ⟨b, off + i * 14 + 11, none⟩ = some (.slice a11 n11 m11) ∧ w.cell? ⟨b, off + i * 14 + 12, none⟩ = some (.slice a12 n12 m12) ∧ w.cell? ⟨b, off + i * 14 + 13, none⟩ = some (.slice a13 n13 m13)

theorem RecAt.keep {w w' : World} {b off i : Nat} {k p n : Int} (h : RecAt w b off i k p n) (hk : ∀ o, w'.cell? ⟨b, o, none⟩ = w.cell? ⟨b, o, none⟩) : RecAt w' b off i k p n := by
  obtain ⟨tx, s4, b5, s6, s7, x8, x9, a10, n10, m10, a11, n11, m11, a12, n12, m12, a13, n13, m13, h⟩ := h
  exact ⟨tx, s4, b5, s6, s7, x8, x9, a10, n10, m10, a11, n11, m11, a12, n12, m12, a13, n13, m13, by simpa only [hk] using h⟩
theorem RecAt.lt {w : World} {b off i : Nat} {k p n : Int} (h : RecAt w b off i k p n) : b < w.heap.size := by
  obtain ⟨tx, s4, b5, s6, s7, x8, x9, a10, n10, m10, a11, n11, m11, a12, n12, m12, a13, n13, m13, h0, _⟩ := h
  exact World.block_lt_of_cell? w _ h0
theorem RecAt.below {w w' : World} {b off i : Nat} {k p n : Int} (h : RecAt w b off i k p n) (hb : Below w.heap.size w w') : RecAt w' b off i k p n :=
  h.keep fun _ => hb.cell h.lt

set_option maxRecDepth 100000 in
theorem at_in (p : Addr) (b off len c i : Nat) (w : World) (k pr n : Int) (hp : w.cell? p = some (.slice (some ⟨b, off, none⟩) len c)) (hi : i < len) (hl : len ≤ 1000000) (hr : RecAt w b off i k pr n) :
    Calls Try.prog 9 #[.pointer (some p), .int .i64 ((i : Int) + 1)] w fun e w' =>
      ∃ v, IsRec v k pr n ∧ e = .returned (.tuple #[.agg v, .bool true]) ∧ Below w.heap.size w w' := by
  obtain ⟨tx, s4, b5, s6, s7, x8, x9, a10, n10, m10, a11, n11, m11, a12, n12, m12, a13, n13, m13, h0, h1, h2, h3, h4, h5, h6, h7, h8, h9, h10, h11, h12, h13⟩ := hr
  have up : ∀ (q : Addr) (v : Value) (o : Obj), w.cell? q = some v → (w.alloc o).cell? q = some v := fun q v o h => by rw [World.cell?_alloc_lt w o q (World.block_lt_of_cell? w q h)]; exact h
  have gp := fun o => up _ _ o hp
  have g0 := fun o => up _ _ o h0
  have g1 := fun o => up _ _ o h1
  have g2 := fun o => up _ _ o h2
  have g3 := fun o => up _ _ o h3
  have g4 := fun o => up _ _ o h4
  have g5 := fun o => up _ _ o h5
  have g6 := fun o => up _ _ o h6
  have g7 := fun o => up _ _ o h7
  have g8 := fun o => up _ _ o h8
  have g9 := fun o => up _ _ o h9
  have g10 := fun o => up _ _ o h10
  have g11 := fun o => up _ _ o h11
  have g12 := fun o => up _ _ o h12
  have g13 := fun o => up _ _ o h13
  clear up hp h0 h1 h2 h3 h4 h5 h6 h7 h8 h9 h10 h11 h12 h13
  have hd : decide ((i : Int) + 1 < 1) = false := by simp; omega
  have hd2 : decide ((len : Int) < (i : Int) + 1) = false := by simp; omega
  go_enter Try.func9, Try.ntmps9
  go_wp2
  refine bodyPost_ret (v := .tuple #[.agg #[.int .i64 k, .int .i64 tx, .int .i64 pr, .int .i64 n, .string s4, .bool b5, .string s6, .string s7, .int .i64 x8, .int .i64 x9, .slice a10 n10 m10, .slice a11 n11 m11, .slice a12 n12 m12, .slice a13 n13 m13], .bool true]) (by simp [results, Try.results9, go_sem]) rfl ?_
  exact ⟨_, ⟨tx, s4, b5, s6, s7, x8, x9, a10, n10, m10, a11, n11, m11, a12, n12, m12, a13, n13, m13, rfl⟩, rfl, (Below.refl _ _).alloc (Nat.le_refl _) _⟩

/-- Outside of the log there is no record. -/
theorem at_out (p : Addr) (A : Option Addr) (len c : Nat) (lsn : Int) (w : World) (hp : w.cell? p = some (.slice A len c)) (hi : (len : Int) < lsn) :
    Calls Try.prog 9 #[.pointer (some p), .int .i64 lsn] w fun e w' =>
      ∃ v, IsRec v 0 0 0 ∧ e = .returned (.tuple #[.agg v, .bool false]) ∧ Below w.heap.size w w' := by
  have up : ∀ (q : Addr) (v : Value) (o : Obj), w.cell? q = some v → (w.alloc o).cell? q = some v := fun q v o h => by rw [World.cell?_alloc_lt w o q (World.block_lt_of_cell? w q h)]; exact h
  have gp := fun o => up _ _ o hp
  clear up hp
  have hd : decide (lsn < 1) = false := by simp; omega
  have hd2 : decide ((len : Int) < lsn) = true := by simp; omega
  go_enter Try.func9, Try.ntmps9
  go_wp2
  refine bodyPost_ret (v := .tuple #[.agg #[.int .i64 0, .int .i64 0, .int .i64 0, .int .i64 0, .string ⟨#[]⟩, .bool false, .string ⟨#[]⟩, .string ⟨#[]⟩, .int .i64 0, .int .i64 0, .slice none 0 0, .slice none 0 0, .slice none 0 0, .slice none 0 0], .bool false]) (by simp [results, Try.results9, go_sem]) rfl ?_
  exact ⟨_, ⟨0, _, _, _, _, _, _, _, _, _, _, _, _, _, _, _, _, _, _, rfl⟩, rfl, (Below.refl _ _).alloc (Nat.le_refl _) _⟩
end Go.Proofs.Ytlhmjmldndoekaa.Undo
