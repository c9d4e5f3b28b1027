/- The contract of space's set: one byte of a page's body turned. -/
import Derived.Test.YtibbmmkjienekaaDoorPage
import Derived.Laws.BytesArg
namespace Go.Proofs.YtibbmmkjienekaaDoor.Sp
open Go.RowKit Go.Proofs.YtibbmmkjienekaaDoor.Mem Go.Proofs.YtibbmmkjienekaaDoor.Pg

theorem conv_one (W : World) (g c : Nat) (b : UInt8) (h : W.cell? ⟨g, 0, none⟩ = some (.int .u8 b.toNat)) :
    (convert 81 9 (.slice (some ⟨g, 0, none⟩) 1 c)).run Tryd.prog W = .ok (.string ⟨#[b]⟩) W := by
  have h0 : ∀ i, i < 1 → W.cell? ⟨g, 0 + i, none⟩ = some (.int .u8 ([(b.toNat : Int)].getD i 0)) := fun i hi => by
    obtain rfl : i = 0 := by omega
    simpa using h
  have := run_convert_bytes_arg (P := Tryd.prog) W 81 5 Tryd.underlying81 Tryd.underlying5 g 0 1 c [(b.toNat : Int)] rfl h0 9 Tryd.underlying9
  rw [this]
  simp [strOfNums]

theorem cut_set (l : List UInt8) (n : Nat) (b : UInt8) (hn : n < l.length) : (str l).extract 0 n ++ ⟨#[b]⟩ ++ (str l).extract (n + 1) (str l).size = str (l.set n b) := by
  apply ByteArray.ext
  apply Array.toList_inj.1
  simp [ByteArray.data_append, ByteArray.data_extract, str_size]
  rw [List.set_eq_take_append_cons_drop, if_pos hn, List.take_of_length_le (l := List.drop (n + 1) l) (by simp)]

set_option maxRecDepth 100000 in
set_option maxHeartbeats 2000000 in
theorem set_any (k d x : Int) (l : List UInt8) (n : Nat) (b : UInt8) (w : World) (hn : n < l.length) (hl : l.length ≤ 1000) :
    Calls Tryd.prog 35 #[.agg #[.int .i64 k, .int .i64 d, .int .i64 x, .string (str l)], .int .i64 n, .int .u8 b.toNat] w fun e w' =>
      e = .returned (.agg #[.int .i64 k, .int .i64 d, .int .i64 x, .string (str (l.set n b))]) ∧ Below w.heap.size w w' := by
  obtain ⟨s, hs⟩ : ∃ s, s = str l := ⟨_, rfl⟩
  rw [← hs]
  have hss : s.size = l.length := by rw [hs, str_size]
  have hn1 : n < s.size := by omega
  have hn2 : n + 1 ≤ s.size := by omega
  have hn3 : s.size ≤ 1000 := by omega
  have hcv := fun W g c => conv_one W g c b
  have hn0 : n ≤ s.size := by omega
  have hw1 : IntKind.i64.wrap ((n : Int) + 1) = (n : Int) + 1 := IntWalk.i64_in _ (by omega)
  have hw2 : (0 : Int) ≤ (n : Int) + 1 := by omega
  have hw3 : ((n : Int) + 1).toNat = n + 1 := by omega
  have Hs := Lib.hid hs
  have Hss := Lib.hid hss
  clear hs hss
  go_enter Tryd.func35, Tryd.ntmps35
  go_wp2_with fail
  go_region
  go_wp2
  have hfin : s.extract 0 n ++ ⟨#[b]⟩ ++ s.extract (n + 1) s.size = str (l.set n b) := by rw [Hs.out]; exact cut_set l n b hn
  refine bodyPost_ret (v := .agg #[.int .i64 k, .int .i64 d, .int .i64 x, .string (str (l.set n b))]) (by simp [results, Tryd.results35, go_sem, hfin]) rfl ⟨rfl, ?_⟩
  exact below_dr (below_al (below_al (below_al (Below.refl _ _) _) _) _)
end Go.Proofs.YtibbmmkjienekaaDoor.Sp
