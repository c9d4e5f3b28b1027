/- The contract of the reference's Zeros. -/
import Derived.Test.YtibbmmkjienekaaDoorPage
import Derived.Laws.BytesArg
namespace Go.Proofs.YtibbmmkjienekaaDoor.Pg
open Go.RowKit Go.Proofs.YtibbmmkjienekaaDoor.Mem

set_option maxRecDepth 100000 in
theorem conv_one (W : World) (g c : Nat) (b : UInt8) (h : W.cell? ⟨g, 0, none⟩ = some (.int .u8 b.toNat)) :
    (convert 81 9 (.slice (some ⟨g, 0, none⟩) 1 c)).run Tryd.prog W = .ok (.string ⟨#[b]⟩) W := by
  have h0 : ∀ i, i < 1 → W.cell? ⟨g, 0 + i, none⟩ = some (.int .u8 ([(b.toNat : Int)].getD i 0)) := fun i hi => by
    obtain rfl : i = 0 := by omega
    simpa using h
  have := run_convert_bytes_arg (P := Tryd.prog) W 81 5 Tryd.underlying81 Tryd.underlying5 g 0 1 c [(b.toNat : Int)] rfl h0 9 Tryd.underlying9
  rw [this]
  simp [strOfNums]

theorem cut_set (l : List UInt8) (n : Nat) (b : UInt8) (hn : n < l.length) : (str l).extract 0 n ++ ⟨#[b]⟩ ++ (str l).extract (n + 1) (str l).size = str (l.set n b) := by
  apply ByteArray.ext
  apply Array.toList_inj.1
  simp [ByteArray.data_append, ByteArray.data_extract, str_size]
  rw [List.set_eq_take_append_cons_drop, if_pos hn, List.take_of_length_le (l := List.drop (n + 1) l) (by simp)]

set_option maxRecDepth 100000 in
theorem conv_zeros (W : World) (g n c : Nat) (h : ∀ i, i < n → W.cell? ⟨g, i, none⟩ = some (.int .u8 0)) :
    (convert 81 9 (.slice (some ⟨g, 0, none⟩) n c)).run Tryd.prog W = .ok (.string (str (zs n))) W := by
  have h0 : ∀ i, i < n → W.cell? ⟨g, 0 + i, none⟩ = some (.int .u8 ((List.replicate n (0 : Int)).getD i 0)) := fun i hi => by
    rw [Nat.zero_add, List.getD_eq_getElem?_getD, List.getElem?_replicate, if_pos hi]
    exact h i hi
  have := run_convert_bytes_arg (P := Tryd.prog) W 81 5 Tryd.underlying81 Tryd.underlying5 g 0 n c (List.replicate n (0 : Int)) (by simp) h0 9 Tryd.underlying9
  rw [this]
  congr 2
  simp [strOfNums, zs, str]

set_option maxRecDepth 100000 in
theorem made_cell (n i : Nat) (h : i < n) : (madeCells (Value.int .u8 0).cells n)[i]? = some (.int .u8 0) := by
  unfold madeCells
  simp [Value.cells, h, Nat.mod_one]

set_option maxRecDepth 100000 in
theorem make_zeros (n : Nat) (hn : n ≤ 1000) : ∃ A : Array Value, (∀ W : World, (Instr.makeSlice 81 (.int .i64 n) (.int .i64 n)).run Tryd.prog W = .ok (.slice (some ⟨W.heap.size, 0, none⟩) n n) (W.alloc (.cells A 5))) ∧
    ∀ W : World, (convert 81 9 (.slice (some ⟨W.heap.size, 0, none⟩) n n)).run Tryd.prog (W.alloc (.cells A 5)) = .ok (.string (str (zs n))) (W.alloc (.cells A 5)) := by
  refine ⟨madeCells (Value.int .u8 0).cells n, fun W => ?_, fun W => ?_⟩
  · have := run_makeSlice (P := Tryd.prog) W 81 5 Tryd.t5 (.int .u8 0) Tryd.underlying81 (by kernel_rfl) (by kernel_rfl) .i64 .i64 n n (by omega) (Int.le_refl _) (by show (n : Int).toNat * 1 ≤ _; omega) (by show ((1 : Nat) : Int) * n ≤ _; omega) (by omega)
    rw [this]
    simp only [Int.toNat_natCast]
    rw [show n * (Tryd.t5).size = n from Nat.mul_one n]
  · apply conv_zeros
    intro i hi
    rw [World.cell?_alloc_at _ _ _ _ rfl]
    exact made_cell n i hi

set_option maxRecDepth 100000 in
theorem refZeros_any (n : Nat) (w : World) (hn : n ≤ 1000) :
    Calls Tryd.prog 22 #[.int .i64 n] w fun e w' => e = .returned (.string (str (zs n))) ∧ Below w.heap.size w w' := by
  have hmax : max (n : Int) 0 = (n : Int) := by omega
  obtain ⟨A, hmk, hcv⟩ := make_zeros n hn
  generalize str (zs n) = z at *
  go_enter Tryd.func22, Tryd.ntmps22
  go_wp2
  go_ret
  exact ⟨rfl, below_al (Below.refl _ _) _⟩
end Go.Proofs.YtibbmmkjienekaaDoor.Pg
