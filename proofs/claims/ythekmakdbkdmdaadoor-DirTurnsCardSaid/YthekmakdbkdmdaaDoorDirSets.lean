/- The law DirSets: its walk. -/
import Derived.Test.YthekmakdbkdmdaaDoorDirAlive
namespace Go.Proofs.YthekmakdbkdmdaaDoor.Dr
open Go.RowKit Go.Proofs.YthekmakdbkdmdaaDoor.Mem Go.Proofs.YthekmakdbkdmdaaDoor.Pg

def rp (x : Int) (j : Nat) : List Int := List.replicate (2 ^ j) x
theorem rp_succ (x : Int) (j : Nat) : rp x j ++ rp x j = rp x (j + 1) := by
  unfold rp
  rw [List.replicate_append_replicate, Nat.pow_succ]
  congr 1
  omega
theorem rp_good (x : Int) (hx : mayP x) (j : Nat) (h : j ≤ 5) : Good j j (rp x j) := ⟨rfl, h, by simp [rp], fun y hy => by rw [(List.mem_replicate.1 hy).2]; exact hx⟩
theorem rp_double (x : Int) (hx : mayP x) (j : Nat) (h : j < 5) (w : World) :
    Calls Tryd.prog 9 #[.agg #[.int .i64 1, .int .i64 j, .int .i64 0, .string (bdy (rp x j))]] w fun e w' =>
      e = .returned (.tuple #[.agg #[.int .i64 1, .int .i64 ((j + 1 : Nat) : Int), .int .i64 0, .string (bdy (rp x (j + 1)))], .int .i64 0]) ∧ Below w.heap.size w w' := by
  rw [← rp_succ]
  exact good_double (rp_good x hx j (by omega)) _ (by simp) h w
/-- The last bits of a number. -/
def low (a : Int) (q : Nat) : Nat := (BitVec.ofInt 64 a).toNat % q
theorem and_low (q m : Nat) (hq : q = 2 ^ m) (hm : m ≤ 5) (a : Int) : bits .and .i64 a ((q : Int) - 1) = (low a q : Int) := by
  subst hq
  have h32 := (pow_small m hm).2
  have e : ((2 ^ m : Nat) : Int) - 1 = ((2 ^ m - 1 : Nat) : Int) := by omega
  rw [e]
  have h2 : (BitVec.ofInt 64 ((2 ^ m - 1 : Nat) : Int)).toNat = 2 ^ m - 1 := by
    rw [BitVec.ofInt_natCast, BitVec.toNat_ofNat]; exact Nat.mod_eq_of_lt (by omega)
  have h3 : (BitVec.ofInt 64 a).toNat % 2 ^ m < 2 ^ m := Nat.mod_lt _ (by omega)
  show IntKind.i64.wrap ((BitVec.ofInt 64 a &&& BitVec.ofInt 64 ((2 ^ m - 1 : Nat) : Int)).toNat : Int) = _
  rw [BitVec.toNat_and, h2, Nat.and_two_pow_sub_one_eq_mod, IntWalk.i64_in _ (by omega)]
  rfl
/-- How many below j end in those bits. -/
def cnt (q b j : Nat) : Nat := ((List.range j).filter fun i => i % q = b).length
theorem cnt_succ (q b j : Nat) : cnt q b (j + 1) = cnt q b j + if j % q = b then 1 else 0 := by
  unfold cnt
  rw [List.range_succ, List.filter_append, List.length_append]
  congr 1
  by_cases h : j % q = b <;> simp [h]
theorem cnt_le (q b j : Nat) : cnt q b j ≤ j := by
  unfold cnt
  exact Nat.le_trans (List.length_filter_le _ _) (by simp)
theorem cnt_all : ∀ m, m ≤ 5 → ∀ b, b < 2 ^ m → cnt (2 ^ m) b 32 = 2 ^ (5 - m) := by decide

set_option maxRecDepth 100000 in
set_option maxHeartbeats 4000000 in
theorem sets_yes (m : Nat) (a y : Int) (w : World) (hm : m ≤ 5) (hy1 : 3 ≤ y) (hy2 : y < 64) :
    Calls Tryd.prog 4 #[.int .i64 m, .int .i64 a, .int .i64 y] w fun e w' => e = .returned (.bool true) ∧ Below w.heap.size w w' := by
  have hal' := fun w => alive_any w
  have hnew := good_new 2 ⟨by decide, by decide⟩
  have hdou := Lib.hid (rp_double 2 ⟨by decide, by decide⟩)
  go_enter Tryd.func4, Tryd.ntmps4
  go_wp2_with fail
  refine (hal' _).mono ?_
  rintro e w1 ⟨rfl, hb1⟩
  go_wp2_with fail
  refine (hnew _).mono ?_
  rintro e w2 ⟨rfl, hb2⟩
  have b2 := below_tr hb1 hb2
  have hl2 : w.heap.size ≤ w2.heap.size := b2.size
  clear hb1 hb2 hal' hnew
  go_wp2_with fail
  go_loopw [9] (fun i wr => ∃ j : Nat, i = .int .i64 j ∧ j ≤ 5 ∧ wr.heap[w2.heap.size]? = some (.cells #[.int .i64 1, .int .i64 j, .int .i64 0, .string (bdy (rp 2 j))] 24 (0, 0)) ∧ Below w.heap.size w wr) (fun i _ => 5 - (intOf i).toNat)
  case atStart => exact ⟨0, rfl, by omega, heap_alloc_new w2 _, below_al b2 _⟩
  case round =>
    obtain ⟨j, rfl, hj, f1, fb⟩ := hrel
    have c1 := blk_cell f1
    have c1f := blk_free f1
    have z1 := lt_of_block f1
    by_cases hlt : j < 5
    · have hd := Lib.hid (hdou.out j hlt)
      generalize bdy (rp 2 j) = S0 at *
      generalize hS1 : bdy (rp 2 (j + 1)) = S1 at *
      have HS1 := Lib.hid hS1
      clear hS1
      go_wp2_with fail
      refine (hd.out _).mono ?_
      rintro e w3 ⟨rfl, hb3⟩
      have k3 := blk_keep f1 hb3
      have b3 := below_base fb fb.size hb3
      have c3 := blk_cell k3
      have c3f := blk_free k3
      have z3 := lt_of_block k3
      clear f1 c1 c1f z1 hb3 fb
      go_wp2_with fail
      case roundEnd =>
        refine ⟨⟨j + 1, by simp, by omega, ?_, below_set4 b3 hl2 _ _ _ _⟩, by simp only [intOf]; omega⟩
        rw [HS1.out]
        exact set4_same k3 (.int .i64 1) (.int .i64 ((j : Int) + 1)) (.int .i64 0) (.string S1)
    · obtain rfl : j = 5 := by omega
      obtain ⟨pe, pl, pu⟩ := pow_small m hm
      obtain ⟨q, hq⟩ : ∃ q, q = 2 ^ m := ⟨_, rfl⟩
      have hqw : wrap64 ((2 : Int) ^ m) = (q : Int) := by rw [Int.toNat_natCast] at pe; rw [pe, ← hq]; exact (wrap_small _ (by omega)).1
      obtain ⟨B, hB⟩ : ∃ B, B = low a q := ⟨_, rfl⟩
      have hBq : B < q := by rw [hB]; exact Nat.mod_lt _ (by omega)
      obtain ⟨qm, hqm⟩ : ∃ qm : Int, qm = (q : Int) - 1 := ⟨_, rfl⟩
      have i1 : IntKind.i64.wrap ((q : Int) - 1) = qm := by rw [IntWalk.i64_in _ (by omega)]; exact hqm.symm
      have i2 := and_low q m hq hm a
      rw [← hqm, ← hB] at i2
      have hg5 := rp_good 2 ⟨by decide, by decide⟩ 5 (by omega)
      have hmy : mayP y := ⟨by omega, hy2⟩
      have hlen : (rp 2 5).length = 32 := by simp [rp]
      have hset := Lib.hid (fun w => good_set hg5 m B y hm (by omega) (by rw [← hq]; omega) hmy w)
      have hgs : Good 5 5 (setTo (rp 2 5) q B y 32) := hg5.set hmy
      rw [← hq, hlen] at hset
      have hall := Lib.hid (fun w => good_all hgs 32 (by rw [setTo_len, hlen]) w)
      have Hand := Lib.hid (and_q q m hq hm)
      have Hq := Lib.hid hq
      have Hqm := Lib.hid hqm
      clear hq hB hqm pe hgs hg5 hlen
      generalize bdy (rp 2 5) = S0 at *
      generalize hX : bdy (setTo (rp 2 5) q B y 32) = S1 at *
      clear hX
      have Hf1 := Lib.hid f1
      clear f1
      go_wp2_with fail
      refine (hset.out _).mono ?_
      rintro e w3 ⟨rfl, hb3⟩
      have b3 := below_base fb fb.size hb3
      clear hb3 hset c1 c1f z1 Hf1 fb
      go_wp2_with fail
      refine (hall.out _).mono ?_
      rintro e w4 ⟨g, cap, rfl, hown, hgl, hb4⟩
      have b4 := below_base b3 b3.size (below_box hb4)
      have hw4 : w3.heap.size < w4.heap.size := lt_of_block (blk_below hb4)
      have hg3 : w3.heap.size + 1 ≤ g := by have := own_base hown g rfl; simpa using this
      have Hown := Lib.hid hown
      clear hb4 b3 hall hown
      go_wp2_with fail
      go_loopw [13, 64] (fun c i wr => ∃ j : Nat, i = .int .i64 j ∧ j ≤ 32 ∧ c = .int .i64 (cnt q B j) ∧ wr.ownsRow (w3.heap.size + 1) 3 1 (.slice (some ⟨g, 0, none⟩) 32 cap) 32 (ints (setTo (rp 2 5) q B y 32)) ∧ Below w.heap.size w wr) (fun _ i _ => 32 - (intOf i).toNat)
      case atStart => exact ⟨0, rfl, by omega, rfl, by simpa using Hown.out, b4⟩
      case round =>
        obtain ⟨j, rfl, hj, rfl, hown, fb⟩ := hrel
        have hcn := cnt_le q B j
        by_cases hlt : j < 32
        · have hl32 : (setTo (rp 2 5) q B y 32).length = 32 := by rw [setTo_len]; simp [rp]
          have hce : wr.cell? ⟨g, j, none⟩ = some (.int .i64 ((setTo (rp 2 5) q B y 32).getD j 0)) := by
            refine own_at hown j _ ?_
            rw [ints, List.getElem?_map, List.getElem?_eq_getElem (by omega), List.getD_eq_getElem?_getD, List.getElem?_eq_getElem (by omega)]
            rfl
          have hfz := own_free hown j
          rw [setTo_get _ _ _ _ _ _ (by simp [rp]; omega)] at hce
          have i3 := Hand.out j (by omega)
          rw [← Hqm.out] at i3
          have hcs := cnt_succ q B j
          have hr2 : (rp 2 5).getD j 0 = 2 := by
            rw [rp, List.getD_eq_getElem?_getD, List.getElem?_replicate, if_pos (by simpa using hlt)]
            rfl
          obtain ⟨C, hC⟩ : ∃ C, C = cnt q B j := ⟨_, rfl⟩
          rw [← hC] at hcs hcn ⊢
          have i4 : IntKind.i64.wrap ((C : Int) + 1) = (C : Int) + 1 := IntWalk.i64_in _ (by omega)
          have Hown := Lib.hid hown
          by_cases hb : j % q = B
          · rw [if_pos ⟨hlt, by rw [hb]⟩] at hce
            rw [if_pos hb] at hcs
            rw [hb] at i3
            have Hcs := Lib.hid hcs
            have Hb := Lib.hid hb
            clear hown hcs hC hr2 hl32 hb
            go_wp2_with fail
            case roundEnd =>
              exact ⟨⟨j + 1, by simp, by omega, by rw [Hcs.out]; simp, Hown.out, fb⟩, by simp only [intOf]; omega⟩
          · rw [if_neg (fun h => hb (by have := h.2; omega)), hr2] at hce
            rw [if_neg hb] at hcs
            obtain ⟨r, hr⟩ : ∃ r, r = j % q := ⟨_, rfl⟩
            rw [← hr] at i3 hb
            have hb' : ((r : Int) == (B : Int)) = false := by simp; omega
            have hy' : ((2 : Int) == y) = false := by simp; omega
            have Hcs := Lib.hid hcs
            clear hown hcs hC hr2 hl32 hr
            go_wp2_with fail
            case roundEnd =>
              exact ⟨⟨j + 1, by simp, by omega, by rw [Hcs.out]; simp, Hown.out, fb⟩, by simp only [intOf]; omega⟩
        · obtain rfl : j = 32 := by omega
          have h32 : cnt q B 32 = 2 ^ (5 - m) := by
            have := cnt_all m hm B (by rw [← Hq.out]; exact hBq)
            rw [← Hq.out] at this
            exact this
          rw [h32]
          have hqz : wrap64 ((2 : Int) ^ (5 - m)) = (2 : Int) ^ (5 - m) := by
            have h5 := pow_small (5 - m) (by omega)
            rw [Int.toNat_natCast] at h5
            rw [h5.1]
            exact (wrap_small _ (by omega)).1
          go_wp2_with fail
          go_ret
          exact ⟨by simp [hqz], fb⟩

set_option maxRecDepth 100000 in
set_option maxHeartbeats 4000000 in
theorem sets_any (d a y : Int) (w : World) :
    Calls Tryd.prog 4 #[.int .i64 d, .int .i64 a, .int .i64 y] w fun e w' => e = .returned (.bool true) ∧ Below w.heap.size w w' := by
  by_cases h : 0 ≤ d ∧ d ≤ 5 ∧ 3 ≤ y ∧ y < 64
  · obtain ⟨m, rfl⟩ := Int.eq_ofNat_of_zero_le h.1
    exact sets_yes m a y w (by omega) h.2.2.1 h.2.2.2
  · have hal' := fun w => alive_any w
    go_enter Tryd.func4, Tryd.ntmps4
    by_cases h1 : d < 0
    · go_wp2_with (fail)
      refine (hal' _).mono ?_
      rintro e w1 ⟨rfl, hb1⟩
      go_wp2
      go_ret
      exact ⟨rfl, hb1⟩
    · by_cases h2 : 5 < d
      · go_wp2_with (fail)
        refine (hal' _).mono ?_
        rintro e w1 ⟨rfl, hb1⟩
        go_wp2
        go_ret
        exact ⟨rfl, hb1⟩
      · by_cases h3 : y < 3
        · go_wp2_with (fail)
          refine (hal' _).mono ?_
          rintro e w1 ⟨rfl, hb1⟩
          go_wp2
          go_ret
          exact ⟨rfl, hb1⟩
        · have h4 : 64 ≤ y := by omega
          go_wp2_with (fail)
          refine (hal' _).mono ?_
          rintro e w1 ⟨rfl, hb1⟩
          go_wp2
          go_ret
          exact ⟨rfl, hb1⟩
end Go.Proofs.YthekmakdbkdmdaaDoor.Dr
