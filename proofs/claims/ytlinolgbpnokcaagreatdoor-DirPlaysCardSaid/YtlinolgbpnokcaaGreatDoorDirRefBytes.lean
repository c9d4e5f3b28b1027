/- The contracts of the reference's Of and Big at two bytes. -/
import Derived.Test.YtlinolgbpnokcaaGreatDoorDirMay
import Derived.Deep.RegionHeld
import Derived.RegionTactic
import Derived.Deep.RegionLaw
import Derived.Test.YtlinolgbpnokcaaGreatDoorZeros
namespace Go.Proofs.YtlinolgbpnokcaaGreatDoor.Dr
open Go.RowKit Go.Proofs.YtlinolgbpnokcaaGreatDoor.Mem Go.Proofs.YtlinolgbpnokcaaGreatDoor.Pg

set_option maxRecDepth 100000 in
set_option maxHeartbeats 1000000 in
theorem of2_any (a b : UInt8) (w : World) :
    Calls Tryz.prog 22 #[.string ⟨#[a, b]⟩] w fun e w' => e = .returned (.int .i64 ((a.toNat : Int) * 256 + b.toNat)) ∧ Below w.heap.size w w' := by
  have ha := a.toNat_lt
  have hb := b.toNat_lt
  obtain ⟨S, hS⟩ : ∃ S : ByteArray, S = ⟨#[a, b]⟩ := ⟨_, rfl⟩
  have hz : S.size = 2 := by rw [hS]; rfl
  have h0 : ∀ h : 0 < S.size, ((S[0]'h).toNat : Int) = a.toNat := fun h => by subst hS; rfl
  have h1 : ∀ h : 1 < S.size, ((S[1]'h).toNat : Int) = b.toNat := fun h => by subst hS; rfl
  rw [← hS]
  clear hS
  have i1 : IntKind.i64.wrap (a.toNat : Int) = (a.toNat : Int) := IntWalk.i64_in _ (by omega)
  have i2 : IntKind.i64.wrap (b.toNat : Int) = (b.toNat : Int) := IntWalk.i64_in _ (by omega)
  have i3 : IntKind.i64.wrap ((a.toNat : Int) * 256) = (a.toNat : Int) * 256 := IntWalk.i64_in _ (by omega)
  have i4 : IntKind.i64.wrap ((a.toNat : Int) * 256 + (b.toNat : Int)) = (a.toNat : Int) * 256 + (b.toNat : Int) := IntWalk.i64_in _ (by omega)
  generalize (a.toNat : Int) = x at *
  generalize (b.toNat : Int) = y at *
  go_enter Tryz.func22, Tryz.ntmps22
  go_wp2
  go_loopw [3, 4] (fun v i wr => ((v = .int .i64 0 ∧ i = .int .i64 0) ∨ (v = .int .i64 x ∧ i = .int .i64 1) ∨ (v = .int .i64 (x * 256 + y) ∧ i = .int .i64 2)) ∧ Below w.heap.size w wr) (fun _ i _ => 2 - (intOf i).toNat)
  case atStart => exact ⟨.inl ⟨rfl, rfl⟩, Below.refl _ _⟩
  case round =>
    obtain ⟨⟨rfl, rfl⟩ | ⟨rfl, rfl⟩ | ⟨rfl, rfl⟩, hbel⟩ := hrel
    · go_wp2
      case roundEnd => exact ⟨⟨.inr (.inl ⟨rfl, rfl⟩), hbel⟩, by simp [intOf]⟩
    · go_wp2
      case roundEnd => exact ⟨⟨.inr (.inr ⟨rfl, rfl⟩), hbel⟩, by simp [intOf]⟩
    · go_wp2
      go_ret
      exact ⟨rfl, hbel⟩

set_option maxRecDepth 100000 in
theorem make2 (W : World) : (Instr.makeSlice 90 (.int .i64 2) (.int .i64 2)).run Tryz.prog W = .ok (.slice (some ⟨W.heap.size, 0, none⟩) 2 2) (W.alloc (.cells #[.int .u8 0, .int .u8 0] 5)) := by
  have := run_makeSlice (P := Tryz.prog) W 90 5 Tryz.t5 (.int .u8 0) Tryz.underlying90 (by kernel_rfl) (by kernel_rfl) .i64 .i64 2 2 (by omega) (Int.le_refl _) (by decide) (by decide) (by omega)
  rw [this]
  have hs : madeCells (Value.int .u8 0).cells 2 = #[.int .u8 0, .int .u8 0] := by
    refine Array.ext (by simp [madeCells, Value.cells]) fun i h1 h2 => ?_
    have h3 := made_cell 2 i (by simpa using h2)
    rw [Array.getElem?_eq_getElem h1] at h3
    injection h3 with h3
    rw [h3]
    rcases (show i = 0 ∨ i = 1 by simp at h2; omega) with rfl | rfl <;> rfl
  rw [show (2 : Int).toNat * (Tryz.t5).size = 2 from rfl, hs]
  rfl
set_option maxRecDepth 100000 in
theorem conv2 (W : World) (g c : Nat) (a b : UInt8) (h0 : W.cell? ⟨g, 0, none⟩ = some (.int .u8 a.toNat)) (h1 : W.cell? ⟨g, 1, none⟩ = some (.int .u8 b.toNat)) :
    (convert 90 9 (.slice (some ⟨g, 0, none⟩) 2 c)).run Tryz.prog W = .ok (.string ⟨#[a, b]⟩) W := by
  have hc : ∀ i, i < 2 → W.cell? ⟨g, 0 + i, none⟩ = some (.int .u8 ([(a.toNat : Int), (b.toNat : Int)].getD i 0)) := fun i hi => by
    rcases (show i = 0 ∨ i = 1 by omega) with rfl | rfl
    · simpa using h0
    · simpa using h1
  have := run_convert_bytes_arg (P := Tryz.prog) W 90 5 Tryz.underlying90 Tryz.underlying5 g 0 2 c [(a.toNat : Int), (b.toNat : Int)] rfl hc 9 Tryz.underlying9
  rw [this]
  simp [strOfNums]

theorem and255 (c : Nat) (hc : c < 256) : bits .and .i64 (c : Int) 255 = (c : Int) := by
  have h1 : (BitVec.ofInt 64 (c : Int)).toNat = c := by
    rw [BitVec.ofInt_natCast, BitVec.toNat_ofNat]; exact Nat.mod_eq_of_lt (by omega)
  have h2 : (BitVec.ofInt 64 (255 : Int)).toNat = 2 ^ 8 - 1 := by decide
  show IntKind.i64.wrap ((BitVec.ofInt 64 (c : Int) &&& BitVec.ofInt 64 (255 : Int)).toNat : Int) = _
  rw [BitVec.toNat_and, h1, h2, Nat.and_two_pow_sub_one_eq_mod, Nat.mod_eq_of_lt hc, IntWalk.i64_in _ (by omega)]

set_option maxRecDepth 100000 in
set_option maxHeartbeats 1000000 in
theorem big2_any (c : Nat) (hc : c < 256) (w : World) :
    Calls Tryz.prog 20 #[.int .i64 c, .int .i64 2] w fun e w' => e = .returned (.tuple #[.string ⟨#[0, UInt8.ofNat c]⟩, .bool true]) ∧ Below w.heap.size w w' := by
  have hmk := make2
  go_enter Tryz.func20, Tryz.ntmps20
  have hcv := conv2
  have a1 := and255 c hc
  have a2 : bits .and .i64 (0 : Int) 255 = 0 := by decide
  have a3 : IntKind.u8.wrap (c : Int) = (c : Int) := IntWalk.u8_in _ (by omega)
  have a4 : (c : Int) / 256 = 0 := by omega
  have a5 : ((UInt8.ofNat c).toNat : Int) = (c : Int) := by simp [Nat.mod_eq_of_lt hc]
  go_wp2
  go_loopw [7, 8] (fun v k wr => ((v = .int .i64 c ∧ k = .int .i64 1 ∧ wr.heap[w.heap.size]? = some (.cells #[.int .u8 0, .int .u8 0] 5 (0, 0))) ∨ (v = .int .i64 0 ∧ k = .int .i64 0 ∧ wr.heap[w.heap.size]? = some (.cells #[.int .u8 0, .int .u8 c] 5 (0, 0))) ∨ (v = .int .i64 0 ∧ k = .int .i64 (-1) ∧ wr.heap[w.heap.size]? = some (.cells #[.int .u8 0, .int .u8 c] 5 (0, 0)))) ∧ Below w.heap.size w wr) (fun _ k _ => (intOf k + 1).toNat)
  case atStart => exact ⟨.inl ⟨rfl, rfl, heap_alloc_new w _⟩, below_al (Below.refl _ w) _⟩
  case round =>
    obtain ⟨⟨rfl, rfl, hh⟩ | ⟨rfl, rfl, hh⟩ | ⟨rfl, rfl, hh⟩, hbel⟩ := hrel
    · have c1 := blk_cell hh
      have c1f := blk_free hh
      have z1 := lt_of_block hh
      go_wp2
      case roundEnd => exact ⟨⟨.inr (.inl ⟨rfl, rfl, heap_setCell_same _ _ 1 _ _ _ hh⟩), below_set hbel (Nat.le_refl _)⟩, by simp [intOf]⟩
    · have c1 := blk_cell hh
      have c1f := blk_free hh
      have z1 := lt_of_block hh
      go_wp2
      case roundEnd => exact ⟨⟨.inr (.inr ⟨rfl, rfl, heap_setCell_same _ _ 0 _ _ _ hh⟩), below_set hbel (Nat.le_refl _)⟩, by simp [intOf]⟩
    · have c1 := blk_cell hh
      have c1f := blk_free hh
      have z1 := lt_of_block hh
      have hcw := hcv wr w.heap.size 2 0 (UInt8.ofNat c) (c1 0) (by rw [a5]; exact c1 1)
      clear hcv
      go_wp2
      go_ret2
      exact ⟨rfl, hbel⟩
end Go.Proofs.YtlinolgbpnokcaaGreatDoor.Dr
