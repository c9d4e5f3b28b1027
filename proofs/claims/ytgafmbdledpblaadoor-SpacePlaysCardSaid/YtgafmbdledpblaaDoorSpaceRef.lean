/- The contracts of the reference's Zeros, Mapped and Map. -/
import Derived.Test.YtgafmbdledpblaaDoorSpaceMaps
import Derived.Test.YtgafmbdledpblaaDoorZeros
import Derived.Deep.RegionHeld
namespace Go.Proofs.YtgafmbdledpblaaDoor.Sp
open Go.RowKit Go.Proofs.YtgafmbdledpblaaDoor.Mem Go.Proofs.YtgafmbdledpblaaDoor.Pg

set_option maxRecDepth 100000 in
set_option maxHeartbeats 2000000 in
theorem mapped_any (k d x : Int) (l : List UInt8) (n : Nat) (b : UInt8) (w : World) (hn : n < l.length) (hl : l.length ≤ 1000) :
    Calls Tryd.prog 13 #[.agg #[.int .i64 k, .int .i64 d, .int .i64 x, .string (str l)], .int .i64 n, .int .u8 b.toNat] w fun e w' =>
      e = .returned (.agg #[.int .i64 k, .int .i64 d, .int .i64 x, .string (str (l.set n b))]) ∧ Below w.heap.size w w' := by
  obtain ⟨s, hs⟩ : ∃ s, s = str l := ⟨_, rfl⟩
  rw [← hs]
  have hss : s.size = l.length := by rw [hs, str_size]
  have hn1 : n < s.size := by omega
  have hn2 : n + 1 ≤ s.size := by omega
  have hn3 : s.size ≤ 1000 := by omega
  have hcv := fun W g c => conv_one W g c b
  have hn0 : n ≤ s.size := by omega
  have hw1 : IntKind.i64.wrap ((n : Int) + 1) = (n : Int) + 1 := IntWalk.i64_in _ (by omega)
  have hw2 : (0 : Int) ≤ (n : Int) + 1 := by omega
  have hw3 : ((n : Int) + 1).toNat = n + 1 := by omega
  have Hs := Lib.hid hs
  have Hss := Lib.hid hss
  clear hs hss
  go_enter Tryd.func13, Tryd.ntmps13
  go_wp2_with fail
  go_region
  go_wp2
  have hfin : s.extract 0 n ++ ⟨#[b]⟩ ++ s.extract (n + 1) s.size = str (l.set n b) := by rw [Hs.out]; exact cut_set l n b hn
  refine bodyPost_ret (v := .agg #[.int .i64 k, .int .i64 d, .int .i64 x, .string (str (l.set n b))]) (by simp [results, Tryd.results13, go_sem, hfin]) rfl ⟨rfl, ?_⟩
  exact below_dr (below_al (below_al (below_al (Below.refl _ _) _) _) _)

end Go.Proofs.YtgafmbdledpblaaDoor.Sp
