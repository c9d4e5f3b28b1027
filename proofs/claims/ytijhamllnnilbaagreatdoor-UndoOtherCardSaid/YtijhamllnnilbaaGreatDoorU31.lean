/- Lemmas of the claim, in their order:
- Plain mathematics of chapter 21: what is to be undone, as a function of a record's number. No program in sight.
- The contract of the log's At: the record of a number.
- undo.Do on a record of no value: of another kind; of a key that is not there.
-/
import Derived.Test.YtijhamllnnilbaaGreatDoorProg
import Derived.WalkKit
import Derived.KernelRfl
import Derived.Outline
import Derived.Test.YtijhamllnnilbaaGreatDoorU22
set_option linter.unusedVariables false
set_option linter.unusedSimpArgs false
namespace Go.Proofs.YtijhamllnnilbaaGreatDoor.Undo

/-- Where one goes on behind a record of kind k; whether it is to be undone; whether it may be. -/
def onF (k p n : Int) : Int × Bool × Bool :=
  if k = 1 then (p, true, true) else if k = 2 then (n, false, true) else if k = 6 ∨ k = 4 then (p, false, true) else (0, false, false)

/-- The step from a record: none if it is no such log. -/
def nxt (len : Nat) (K P N : Nat → Int) (lsn : Int) : Option (Int × Bool) :=
  if lsn ≤ len then
    (if (onF (K (lsn - 1).toNat) (P (lsn - 1).toNat) (N (lsn - 1).toNat)).2.2 = true ∧ (onF (K (lsn - 1).toNat) (P (lsn - 1).toNat) (N (lsn - 1).toNat)).1 < lsn then
      some ((onF (K (lsn - 1).toNat) (P (lsn - 1).toNat) (N (lsn - 1).toNat)).1, (onF (K (lsn - 1).toNat) (P (lsn - 1).toNat) (N (lsn - 1).toNat)).2.1) else none)
  else none

/-- All steps, with so much fuel. -/
def steps (nx : Int → Option (Int × Bool)) (m : Int) : Nat → Int → Option (List Int)
  | 0, _ => some []
  | f + 1, lsn =>
    if m < lsn then
      match nx lsn with
      | none => none
      | some (q, b) => (steps nx m f q).map fun l => if b then lsn :: l else l
    else some []

def Falls (nx : Int → Option (Int × Bool)) : Prop := ∀ lsn q b, nx lsn = some (q, b) → q < lsn

theorem nxt_falls (len : Nat) (K P N : Nat → Int) : Falls (nxt len K P N) := by
  intro lsn q b h
  unfold nxt at h
  split at h
  · split at h
    · rename_i h1
      injection h with h
      injection h with h2 h3
      rw [← h2]
      exact h1.2
    · cases h
  · cases h

theorem steps_stop (nx : Int → Option (Int × Bool)) (m : Int) (f : Nat) (lsn : Int) (h : ¬ m < lsn) : steps nx m f lsn = some [] := by
  cases f
  · rfl
  · simp [steps, h]

theorem steps_fuel {nx : Int → Option (Int × Bool)} (hn : Falls nx) (m : Int) : ∀ (f g : Nat) (lsn : Int), lsn ≤ m + f → lsn ≤ m + g → steps nx m f lsn = steps nx m g lsn := by
  intro f
  induction f with
  | zero => intro g lsn h _; rw [steps_stop _ _ _ _ (by omega), steps_stop _ _ _ _ (by omega)]
  | succ f ih =>
    intro g lsn h hg
    by_cases hm : m < lsn
    · obtain ⟨g, rfl⟩ : ∃ k, g = k + 1 := ⟨g - 1, by omega⟩
      simp only [steps, if_pos hm]
      cases hq : nx lsn with
      | none => rfl
      | some qb =>
        obtain ⟨q, b⟩ := qb
        have := hn _ _ _ hq
        simp only
        rw [ih g q (by omega) (by omega)]
    · rw [steps_stop _ _ _ _ hm, steps_stop _ _ _ _ hm]

/-- All steps from a record on, down to m. -/
def all (nx : Int → Option (Int × Bool)) (m lsn : Int) : Option (List Int) := steps nx m (lsn - m).toNat lsn

theorem all_stop (nx : Int → Option (Int × Bool)) (m lsn : Int) (h : ¬ m < lsn) : all nx m lsn = some [] := steps_stop _ _ _ _ h
theorem all_bad {nx : Int → Option (Int × Bool)} {m lsn : Int} (h : m < lsn) (hb : nx lsn = none) : all nx m lsn = none := by
  unfold all
  obtain ⟨f, hf⟩ : ∃ f, (lsn - m).toNat = f + 1 := ⟨(lsn - m).toNat - 1, by omega⟩
  rw [hf]
  simp [steps, h, hb]
theorem all_step {nx : Int → Option (Int × Bool)} (hn : Falls nx) {m lsn q : Int} {b : Bool} (h : m < lsn) (hb : nx lsn = some (q, b)) :
    all nx m lsn = (all nx m q).map fun l => if b then lsn :: l else l := by
  have hq := hn _ _ _ hb
  unfold all
  obtain ⟨f, hf⟩ : ∃ f, (lsn - m).toNat = f + 1 := ⟨(lsn - m).toNat - 1, by omega⟩
  rw [hf]
  simp only [steps, if_pos h, hb]
  rw [steps_fuel hn m f (q - m).toNat q (by omega) (by omega)]

end Go.Proofs.YtijhamllnnilbaaGreatDoor.Undo
namespace Go.Proofs.YtijhamllnnilbaaGreatDoor.Undo
open Go.RowKit

/-- A record's cells: its kind, what it leads to, and the rest. -/
def IsRec (v : Array Value) (k p n : Int) : Prop :=
  ∃ (tx : Int) (s4 : ByteArray) (b5 : Bool) (s6 s7 : ByteArray) (x8 x9 : Int) (a10 : Option Addr) (n10 m10 : Nat) (a11 : Option Addr) (n11 m11 : Nat) (a12 : Option Addr) (n12 m12 : Nat) (a13 : Option Addr) (n13 m13 : Nat),
    v = #[.int .i64 k, .int .i64 tx, .int .i64 p, .int .i64 n, .string s4, .bool b5, .string s6, .string s7, .int .i64 x8, .int .i64 x9, .slice a10 n10 m10, .slice a11 n11 m11, .slice a12 n12 m12, .slice a13 n13 m13]

/-- Record i of a row of records at block b from off on. -/
def RecAt (w : World) (b off i : Nat) (k p n : Int) : Prop :=
  ∃ (tx : Int) (s4 : ByteArray) (b5 : Bool) (s6 s7 : ByteArray) (x8 x9 : Int) (a10 : Option Addr) (n10 m10 : Nat) (a11 : Option Addr) (n11 m11 : Nat) (a12 : Option Addr) (n12 m12 : Nat) (a13 : Option Addr) (n13 m13 : Nat),
    w.cell? ⟨b, off + i * 14, none⟩ = some (.int .i64 k) ∧ w.cell? ⟨b, off + i * 14 + 1, none⟩ = some (.int .i64 tx) ∧ w.cell? ⟨b, off + i * 14 + 2, none⟩ = some (.int .i64 p) ∧ w.cell? ⟨b, off + i * 14 + 3, none⟩ = some (.int .i64 n) ∧ w.cell? ⟨b, off + i * 14 + 4, none⟩ = some (.string s4) ∧ w.cell? ⟨b, off + i * 14 + 5, none⟩ = some (.bool b5) ∧ w.cell? ⟨b, off + i * 14 + 6, none⟩ = some (.string s6) ∧ w.cell? ⟨b, off + i * 14 + 7, none⟩ = some (.string s7) ∧ w.cell? ⟨b, off + i * 14 + 8, none⟩ = some (.int .i64 x8) ∧ w.cell? ⟨b, off + i * 14 + 9, none⟩ = some (.int .i64 x9) ∧ w.cell? ⟨b, off + i * 14 + 10, none⟩ = some (.slice a10 n10 m10) ∧ w.cell? ⟨b, off + i * 14 + 11, none⟩ = some (.slice a11 n11 m11) ∧ w.cell? ⟨b, off + i * 14 + 12, none⟩ = some (.slice a12 n12 m12) ∧ w.cell? ⟨b, off + i * 14 + 13, none⟩ = some (.slice a13 n13 m13)

theorem RecAt.keep {w w' : World} {b off i : Nat} {k p n : Int} (h : RecAt w b off i k p n) (hk : ∀ o, w'.cell? ⟨b, o, none⟩ = w.cell? ⟨b, o, none⟩) : RecAt w' b off i k p n := by
  obtain ⟨tx, s4, b5, s6, s7, x8, x9, a10, n10, m10, a11, n11, m11, a12, n12, m12, a13, n13, m13, h⟩ := h
  exact ⟨tx, s4, b5, s6, s7, x8, x9, a10, n10, m10, a11, n11, m11, a12, n12, m12, a13, n13, m13, by simpa only [hk] using h⟩
theorem RecAt.lt {w : World} {b off i : Nat} {k p n : Int} (h : RecAt w b off i k p n) : b < w.heap.size := by
  obtain ⟨tx, s4, b5, s6, s7, x8, x9, a10, n10, m10, a11, n11, m11, a12, n12, m12, a13, n13, m13, h0, _⟩ := h
  exact World.block_lt_of_cell? w _ h0
theorem RecAt.below {w w' : World} {b off i : Nat} {k p n : Int} (h : RecAt w b off i k p n) (hb : Below w.heap.size w w') : RecAt w' b off i k p n :=
  h.keep fun _ => hb.cell h.lt

set_option maxRecDepth 100000 in
theorem at_in (p : Addr) (b off len c i : Nat) (w : World) (k pr n : Int) (hp : w.cell? p = some (.slice (some ⟨b, off, none⟩) len c)) (hi : i < len) (hl : len ≤ 1000000) (hr : RecAt w b off i k pr n) :
    Calls Tryz.prog 125 #[.pointer (some p), .int .i64 ((i : Int) + 1)] w fun e w' =>
      ∃ v, IsRec v k pr n ∧ e = .returned (.tuple #[.agg v, .bool true]) ∧ Below w.heap.size w w' := by
  obtain ⟨tx, s4, b5, s6, s7, x8, x9, a10, n10, m10, a11, n11, m11, a12, n12, m12, a13, n13, m13, h0, h1, h2, h3, h4, h5, h6, h7, h8, h9, h10, h11, h12, h13⟩ := hr
  have up : ∀ (q : Addr) (v : Value) (o : Obj), w.cell? q = some v → (w.alloc o).cell? q = some v := fun q v o h => by rw [World.cell?_alloc_lt w o q (World.block_lt_of_cell? w q h)]; exact h
  have gp := fun o => up _ _ o hp
  have g0 := fun o => up _ _ o h0
  have g1 := fun o => up _ _ o h1
  have g2 := fun o => up _ _ o h2
  have g3 := fun o => up _ _ o h3
  have g4 := fun o => up _ _ o h4
  have g5 := fun o => up _ _ o h5
  have g6 := fun o => up _ _ o h6
  have g7 := fun o => up _ _ o h7
  have g8 := fun o => up _ _ o h8
  have g9 := fun o => up _ _ o h9
  have g10 := fun o => up _ _ o h10
  have g11 := fun o => up _ _ o h11
  have g12 := fun o => up _ _ o h12
  have g13 := fun o => up _ _ o h13
  clear up hp h0 h1 h2 h3 h4 h5 h6 h7 h8 h9 h10 h11 h12 h13
  have hd : decide ((i : Int) + 1 < 1) = false := by simp; omega
  have hd2 : decide ((len : Int) < (i : Int) + 1) = false := by simp; omega
  go_enter Tryz.func125, Tryz.ntmps125
  go_wp2
  refine bodyPost_ret (v := .tuple #[.agg #[.int .i64 k, .int .i64 tx, .int .i64 pr, .int .i64 n, .string s4, .bool b5, .string s6, .string s7, .int .i64 x8, .int .i64 x9, .slice a10 n10 m10, .slice a11 n11 m11, .slice a12 n12 m12, .slice a13 n13 m13], .bool true]) (by simp [results, Tryz.results125, go_sem]) rfl ?_
  exact ⟨_, ⟨tx, s4, b5, s6, s7, x8, x9, a10, n10, m10, a11, n11, m11, a12, n12, m12, a13, n13, m13, rfl⟩, rfl, (Below.refl _ _).alloc (Nat.le_refl _) _⟩

/-- Outside of the log there is no record. -/
theorem at_out (p : Addr) (A : Option Addr) (len c : Nat) (lsn : Int) (w : World) (hp : w.cell? p = some (.slice A len c)) (hi : (len : Int) < lsn) :
    Calls Tryz.prog 125 #[.pointer (some p), .int .i64 lsn] w fun e w' =>
      ∃ v, IsRec v 0 0 0 ∧ e = .returned (.tuple #[.agg v, .bool false]) ∧ Below w.heap.size w w' := by
  have up : ∀ (q : Addr) (v : Value) (o : Obj), w.cell? q = some v → (w.alloc o).cell? q = some v := fun q v o h => by rw [World.cell?_alloc_lt w o q (World.block_lt_of_cell? w q h)]; exact h
  have gp := fun o => up _ _ o hp
  clear up hp
  have hd : decide (lsn < 1) = false := by simp; omega
  have hd2 : decide ((len : Int) < lsn) = true := by simp; omega
  go_enter Tryz.func125, Tryz.ntmps125
  go_wp2
  refine bodyPost_ret (v := .tuple #[.agg #[.int .i64 0, .int .i64 0, .int .i64 0, .int .i64 0, .string ⟨#[]⟩, .bool false, .string ⟨#[]⟩, .string ⟨#[]⟩, .int .i64 0, .int .i64 0, .slice none 0 0, .slice none 0 0, .slice none 0 0, .slice none 0 0], .bool false]) (by simp [results, Tryz.results125, go_sem]) rfl ?_
  exact ⟨_, ⟨0, _, _, _, _, _, _, _, _, _, _, _, _, _, _, _, _, _, _, rfl⟩, rfl, (Below.refl _ _).alloc (Nat.le_refl _) _⟩
end Go.Proofs.YtijhamllnnilbaaGreatDoor.Undo
namespace Go.Proofs.YtijhamllnnilbaaGreatDoor.Ha
open Go.RowKit Go.Proofs.YtijhamllnnilbaaGreatDoor.Mem Go.Proofs.YtijhamllnnilbaaGreatDoor.Pg Go.Proofs.YtijhamllnnilbaaGreatDoor.Kp Go.Proofs.YtijhamllnnilbaaGreatDoor.Sp Go.Proofs.YtijhamllnnilbaaGreatDoor.Gr
set_option linter.unusedSimpArgs false
set_option linter.unusedVariables false
/-- A record of a kind and a key. -/
abbrev recO (K : Int) (U : ByteArray) : Obj := .cells #[.int .i64 K, .int .i64 0, .int .i64 0, .int .i64 0, .string U, .bool false, .string ⟨#[]⟩, .string ⟨#[]⟩, .int .i64 0, .int .i64 0, .slice none 0 0, .slice none 0 0, .slice none 0 0, .slice none 0 0] 103 (0, 0)
set_option maxRecDepth 100000 in
set_option maxHeartbeats 4000000 in
theorem do_arg (K : Int) (U : ByteArray) (v : Value) (w : World) (hK : ¬ K = 1) :
    Calls Tryz.prog 45 #[v, .agg #[.int .i64 K, .int .i64 0, .int .i64 0, .int .i64 0, .string U, .bool false, .string ⟨#[]⟩, .string ⟨#[]⟩, .int .i64 0, .int .i64 0, .slice none 0 0, .slice none 0 0, .slice none 0 0, .slice none 0 0]] w fun e w' => e = .returned (.int .i64 1) ∧ Below w.heap.size w w' := by
  have B0 := Lib.hid (below_al (Below.refl _ w) (recO K U))
  have z0 := heap_alloc_new w (recO K U)
  have c0 := blk_cell z0
  have l0 := lt_of_block z0
  have e0 : (K == 1) = false := by simpa using hK
  clear z0
  go_enter Tryz.func45, Tryz.ntmps45
  go_wp2_with fail
  go_ret
  exact ⟨rfl, B0.out⟩
set_option maxRecDepth 100000 in
set_option maxHeartbeats 4000000 in
theorem do_none (w0 w : World) (gb mb sb qb c n D : Nat) (pg : Nat → Pag) (tk : Int) (t : Tri) (key : List UInt8) (h : GV w0 w gb mb sb qb c n pg tk) (T : Tb n pg D t) (hno : ¬ (keyOk key ∧ has key (t.at' (sumF key)).cells)) :
    Calls Tryz.prog 45 #[.pointer (some ⟨gb, 0, none⟩), .agg #[.int .i64 1, .int .i64 0, .int .i64 0, .int .i64 0, .string (str key), .bool false, .string ⟨#[]⟩, .string ⟨#[]⟩, .int .i64 0, .int .i64 0, .slice none 0 0, .slice none 0 0, .slice none 0 0, .slice none 0 0]] w fun e w' => e = .returned (.int .i64 0) ∧ GV w0 w' gb mb sb qb c n pg tk ∧ Below w.heap.size w w' := by
  have hcut := fun W (hW : GV w0 W gb mb sb qb c n pg tk) => cut_none_ok w0 W gb mb sb qb c n D pg tk t key false hW T hno
  obtain ⟨U, hU⟩ : ∃ U, U = str key := ⟨_, rfl⟩
  rw [← hU]
  simp only [← hU] at hcut
  have BB := below_al (Below.refl _ w) (recO 1 U)
  have B0 := Lib.hid BB
  have z0 := heap_alloc_new w (recO 1 U)
  have Z0 := Lib.hid z0
  have c0 := blk_cell z0
  have l0 := lt_of_block z0
  have hct := hcut _ (h.below BB)
  clear z0 hcut hU BB h hno T
  go_enter Tryz.func45, Tryz.ntmps45
  go_wp2_with fail
  with_reducible refine hct.mono ?_
  rintro e w1 ⟨rfl, hg1, hr1⟩
  have G1 := Lib.hid hg1
  have B1 := Lib.hid (below_tr B0.out hr1.bel)
  have Z1 := blk_keep Z0.out hr1.bel
  have c1 := blk_cell Z1
  have l1 := lt_of_block Z1
  clear hct hg1 hr1 Z1 Z0 B0 c0 l0
  go_wp2_with fail
  go_loopg [5, 29] 0 (fun g v5 v29 W => v5 = .int .i64 0 ∧ v29 = .int .i64 0 ∧ W = w1)
  case atStart => exact ⟨rfl, rfl, rfl⟩
  case round =>
    obtain ⟨rfl, rfl, rfl⟩ := hrel
    go_wp2_with fail
    go_ret
    exact ⟨rfl, G1.out, B1.out⟩
end Go.Proofs.YtijhamllnnilbaaGreatDoor.Ha
