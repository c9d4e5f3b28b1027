/- Lemmas of the claim, in their order:
- The contracts of package fnv.
- The contracts of package cell's Right, Size, number. (Printed by tools/gen_cel.py.)
-/
import Derived.Test.YtijhamllnnilbaaGreatDoorU02
import Derived.Test.YtijhamllnnilbaaGreatDoorU03
import Derived.BigQuiet
import Derived.Test.YtijhamllnnilbaaGreatDoorShelf
import Derived.Deep.RegionHeld
import Derived.RegionTactic
import Derived.Laws.BytesArg
set_option linter.unusedVariables false
set_option linter.unusedSimpArgs false
namespace Go.Proofs.YtijhamllnnilbaaGreatDoor.Ha
open Go.RowKit Go.Proofs.YtijhamllnnilbaaGreatDoor.Mem Go.Proofs.YtijhamllnnilbaaGreatDoor.Pg Go.Proofs.YtijhamllnnilbaaGreatDoor.Kp Go.Proofs.YtijhamllnnilbaaGreatDoor.Sp
set_option linter.unusedSimpArgs false
set_option linter.unusedVariables false

theorem str_nil_iff (l : List UInt8) : (str l).toList = [] ↔ l = [] := by
  have ht0 : (⟨#[]⟩ : ByteArray).toList = [] := by kernel_rfl
  constructor
  · intro e
    by_cases h : l = []
    · exact h
    · have h0 := (Lib.bytes_beq_false_iff (str l) ⟨#[]⟩).2 (fun e => h (by
        have h1 : (str l).size = 0 := by rw [e]; rfl
        rw [str_size] at h1
        exact List.length_eq_zero_iff.1 h1))
      rw [ht0, e] at h0
      cases h0
  · rintro rfl
    exact ht0
set_option maxRecDepth 100000 in
theorem key_any (l : List UInt8) (w : World) :
    Calls Tryz.prog 17 #[.string (str l)] w fun e w' => e = .returned (.bool (decide (keyOk l))) ∧ w' = w := by
  have hsz : (str l).size = l.length := str_size l
  have hn := str_nil_iff l
  obtain ⟨S, hS⟩ : ∃ S, S = str l := ⟨_, rfl⟩
  rw [← hS] at hsz hn ⊢
  clear hS
  by_cases h0 : l = []
  · rw [decide_eq_false (fun h : keyOk l => h.1 h0)]
    have e1 := hn.2 h0
    clear h0 hn hsz
    go_enter Tryz.func17, Tryz.ntmps17
    go_wp2_with fail
    go_ret
    exact ⟨rfl, rfl⟩
  · have e1 : ¬ S.toList = [] := fun e => h0 (hn.1 e)
    have e2 : (S.toList == []) = false := by simpa using e1
    have e3 : decide (S.toList = []) = false := by simpa using e1
    by_cases h1 : l.length ≤ 16
    · rw [decide_eq_true (show keyOk l from ⟨h0, h1⟩)]
      have e4 : decide ((S.size : Int) ≤ 16) = true := by rw [hsz]; simp; omega
      clear h0 hn hsz h1
      go_enter Tryz.func17, Tryz.ntmps17
      go_wp2_with fail
      go_ret
      exact ⟨rfl, rfl⟩
    · rw [decide_eq_false (fun h : keyOk l => h1 h.2)]
      have e4 : decide ((S.size : Int) ≤ 16) = false := by rw [hsz]; simp; omega
      clear h0 hn hsz h1
      go_enter Tryz.func17, Tryz.ntmps17
      go_wp2_with fail
      go_ret
      exact ⟨rfl, rfl⟩

theorem u32_nat (a : Nat) (h : a < 4294967296) : (BitVec.ofInt 32 (a : Int)).toNat = a := by
  rw [BitVec.ofInt_natCast, BitVec.toNat_ofNat]; exact Nat.mod_eq_of_lt (by omega)
theorem u64_nat (a : Nat) (h : a < 18446744073709551616) : (BitVec.ofInt 64 (a : Int)).toNat = a := by
  rw [BitVec.ofInt_natCast, BitVec.toNat_ofNat]; exact Nat.mod_eq_of_lt (by omega)
theorem xor_lt (a b : Nat) (ha : a < 4294967296) (hb : b < 4294967296) : a ^^^ b < 4294967296 := Nat.xor_lt_two_pow (n := 32) ha hb
theorem xor_u32 (a b : Nat) (ha : a < 4294967296) (hb : b < 4294967296) : bits .xor .u32 (a : Int) (b : Int) = ((a ^^^ b : Nat) : Int) := by
  have h3 := xor_lt a b ha hb
  show IntKind.u32.wrap ((BitVec.ofInt 32 (a : Int) ^^^ BitVec.ofInt 32 (b : Int)).toNat : Int) = _
  rw [BitVec.toNat_xor, u32_nat a ha, u32_nat b hb]
  show ((a ^^^ b : Nat) : Int) % 4294967296 = _
  omega
theorem sum_step (h : Nat) (hh : h < 4294967296) (l : List UInt8) (j : Nat) (hj : j < l.length) : bits .xor .u32 (h : Int) (bt l j % 4294967296) * 16777619 % 4294967296 = ((((h ^^^ l[j].toNat) * 16777619) % 4294967296 : Nat) : Int) := by
  have hb : bt l j % 4294967296 = ((l[j].toNat : Nat) : Int) := by
    have e : bt l j = ((l[j].toNat : Nat) : Int) := by
      unfold bt; rw [List.getD_eq_getElem?_getD, List.getElem?_eq_getElem hj, Option.getD_some]
    have := l[j].toNat_lt
    rw [e]; omega
  rw [hb, xor_u32 h _ hh (by have := l[j].toNat_lt; omega)]
  omega
theorem sumF_step (l : List UInt8) (j : Nat) (hj : j < l.length) : sumF (l.take (j + 1)) = ((sumF (l.take j)) ^^^ l[j].toNat) * 16777619 % 4294967296 := by
  rw [List.take_succ_eq_append_getElem hj]
  unfold sumF
  rw [sumN_append]
  rfl
set_option maxRecDepth 100000 in
theorem sum_any (l : List UInt8) (w : World) (hl : l.length ≤ 1000000) :
    Calls Tryz.prog 188 #[.string (str l)] w fun e w' => e = .returned (.int .u32 (sumF l)) ∧ w' = w := by
  have hsz : (str l).size = l.length := str_size l
  have hb := str_bt l
  obtain ⟨S, hS⟩ : ∃ S, S = str l := ⟨_, rfl⟩
  rw [← hS] at hsz hb ⊢
  have Hb := Lib.hid hb
  clear hS hb
  go_enter Tryz.func188, Tryz.ntmps188
  go_wp2_with fail
  go_loopw [3, 7] (fun h u wr => ∃ j : Nat, h = .int .u32 (sumF (l.take j)) ∧ u = .int .i64 j ∧ j ≤ l.length ∧ wr = w) (fun _ u _ => l.length - (intOf u).toNat)
  case atStart => exact ⟨0, rfl, rfl, Nat.zero_le _, rfl⟩
  case round =>
    obtain ⟨j, rfl, rfl, hj, rfl⟩ := hrel
    by_cases hlt : j < l.length
    · have hjS : j < S.size := by omega
      have hjS' : (j : Int) < (S.size : Int) := by omega
      have b1 := Hb.out j hjS
      have d1 : decide ((j : Int) < (S.size : Int)) = true := by simpa using hjS'
      have i1 : IntKind.i64.wrap ((j : Int) + 1) = (j : Int) + 1 := IntWalk.i64_in _ (by omega)
      go_wp2_with fail
      rw [sum_step _ (sumF_lt _) l j hlt, ← sumF_step l j hlt]
      refine ⟨⟨j + 1, rfl, by simp, by omega, trivial⟩, ?_⟩
      clear i1
      simp [intOf]; omega
    · obtain rfl : j = l.length := by omega
      rw [List.take_length]
      go_wp2_with fail
      go_ret
      exact ⟨rfl, rfl⟩
theorem and_u32 (a d : Nat) (ha : a < 4294967296) (hd : d ≤ 31) : bits .and .u32 (a : Int) ((2 ^ d - 1 : Nat) : Int) = ((a % 2 ^ d : Nat) : Int) := by
  have h1 : 2 ^ d ≤ 2 ^ 31 := Nat.pow_le_pow_right (by omega) hd
  have h2 : 2 ^ d - 1 < 4294967296 := by omega
  show IntKind.u32.wrap ((BitVec.ofInt 32 (a : Int) &&& BitVec.ofInt 32 ((2 ^ d - 1 : Nat) : Int)).toNat : Int) = _
  rw [BitVec.toNat_and, u32_nat a ha, u32_nat _ h2, Nat.and_two_pow_sub_one_eq_mod]
  have h3 : a % 2 ^ d ≤ a := Nat.mod_le _ _
  show ((a % 2 ^ d : Nat) : Int) % 4294967296 = _
  omega
set_option maxRecDepth 100000 in
theorem bits_any (l : List UInt8) (d : Nat) (hd : d ≤ 31) (w : World) (hl : l.length ≤ 1000000) :
    Calls Tryz.prog 134 #[.string (str l), .int .i64 d] w fun e w' => e = .returned (.int .i64 (bitsF l d)) ∧ Below w.heap.size w w' := by
  have hsum := fun W => sum_any l W hl
  have hlt := sumF_lt l
  have hand := and_u32 (sumF l) d hlt hd
  have hle : sumF l % 2 ^ d ≤ sumF l := Nat.mod_le _ _
  have h31 : 2 ^ d ≤ 2 ^ 31 := Nat.pow_le_pow_right (by omega) hd
  have h1 : 1 ≤ 2 ^ d := Nat.one_le_two_pow
  have m1 : max (d : Int) 0 = (d : Int) := by omega
  have m2 : min (d : Int) 31 = (d : Int) := by omega
  unfold bitsF
  generalize sumF l = h at *
  generalize hs : str l = S at *
  clear hs
  go_enter Tryz.func134, Tryz.ntmps134
  go_wp2_with fail
  go_quiet (first | (go_at_call 188; exact Calls.quiet_of_same (hsum _)))
  have hp : ((2 : Int) ^ d - 1) % 4294967296 = ((2 ^ d - 1 : Nat) : Int) := by
    have e : ((2 : Int) ^ d) = ((2 ^ d : Nat) : Int) := by simp
    rw [e]; omega
  have hval : wrap64 (bits .and .u32 (h : Int) (((2 : Int) ^ d - 1) % 4294967296)) = ((h % 2 ^ d : Nat) : Int) := by
    rw [hp, hand]; exact IntWalk.wrap64_in _ (by omega)
  rw [hval]
  clear hval hp hand m1 m2
  go_wp2_with fail
  go_ret
  exact ⟨rfl, below_drN (Below.refl _ _) _⟩
end Go.Proofs.YtijhamllnnilbaaGreatDoor.Ha
namespace Go.Proofs.YtijhamllnnilbaaGreatDoor.Ha
open Go.RowKit Go.Proofs.YtijhamllnnilbaaGreatDoor.Mem Go.Proofs.YtijhamllnnilbaaGreatDoor.Pg Go.Proofs.YtijhamllnnilbaaGreatDoor.Kp Go.Proofs.YtijhamllnnilbaaGreatDoor.Sp
set_option linter.unusedSimpArgs false
set_option linter.unusedVariables false
theorem Cel.ok_iff (c : Cel) : c.ok ↔ keyOk c.key ∧ ((c.blob = 0 ∧ c.val.length ≤ 40 ∧ c.size = 0) ∨ (2 ≤ c.blob ∧ c.blob < 64 ∧ c.val = [] ∧ 40 < c.size ∧ c.size ≤ 400)) := ⟨fun h => ⟨h.key, h.rest⟩, fun h => ⟨h.1, h.2⟩⟩
noncomputable instance (c : Cel) : Decidable c.ok := Classical.propDecidable _
abbrev celO (k v : ByteArray) (b z : Int) : Obj := .cells #[.string k, .string v, .int .i64 b, .int .i64 z] 33
set_option maxRecDepth 100000 in
set_option maxHeartbeats 2000000 in
theorem right_any (c : Cel) (w : World) :
    Calls Tryz.prog 49 #[c.v] w fun e w' => e = .returned (.bool (decide c.ok)) ∧ Below w.heap.size w w' := by
  obtain ⟨k, v, b, z⟩ := c
  have hkey := fun W => key_any k W
  have hvz : (str v).size = v.length := str_size v
  have hvn := str_nil_iff v
  have hiff := Cel.ok_iff ⟨k, v, b, z⟩
  simp only at hiff
  simp only [Cel.v]
  obtain ⟨K, hK⟩ : ∃ K, K = str k := ⟨_, rfl⟩
  obtain ⟨V, hV⟩ : ∃ V, V = str v := ⟨_, rfl⟩
  rw [← hK] at hkey ⊢
  rw [← hV] at hvz hvn ⊢
  have hc := blk_cell (heap_alloc_new w (celO K V b z))
  have hb := below_al (Below.refl _ w) (celO K V b z)
  clear hK hV
  by_cases h0 : keyOk k
  rotate_left
  · rw [decide_eq_false h0] at hkey
    rw [decide_eq_false (fun h => h0 (hiff.1 h).1)]
    clear hiff h0 hvz hvn
    go_enter Tryz.func49, Tryz.ntmps49
    go_wp2_with fail
    with_reducible refine (hkey _).mono ?_
    rintro e w1 ⟨rfl, rfl⟩
    go_wp2_with fail
    go_ret
    exact ⟨rfl, hb⟩
  rw [decide_eq_true h0] at hkey
  by_cases hb0 : b = 0
  · subst hb0
    by_cases h1 : v.length ≤ 40
    · have e1 : decide ((V.size : Int) ≤ 40) = true := by rw [hvz]; simp; omega
      by_cases h2 : z = 0
      · subst h2
        rw [decide_eq_true (hiff.2 ⟨h0, .inl ⟨rfl, h1, rfl⟩⟩)]
        clear hiff h0 h1 hvz hvn
        go_enter Tryz.func49, Tryz.ntmps49
        go_wp2_with fail
        with_reducible refine (hkey _).mono ?_
        rintro e w1 ⟨rfl, rfl⟩
        go_wp2_with fail
        go_ret
        exact ⟨rfl, hb⟩
      · have e2 : ((z : Int) == 0) = false := by simp; omega
        have e2' : decide ((z : Int) = 0) = false := by simp; omega
        have e2'' : decide (z = 0) = false := by simpa using h2
        rw [decide_eq_false (fun h => by have := (hiff.1 h).2; omega)]
        clear hiff h0 h1 h2 hvz hvn
        go_enter Tryz.func49, Tryz.ntmps49
        go_wp2_with fail
        with_reducible refine (hkey _).mono ?_
        rintro e w1 ⟨rfl, rfl⟩
        go_wp2_with fail
        go_ret
        exact ⟨rfl, hb⟩
    · have e1 : decide ((V.size : Int) ≤ 40) = false := by rw [hvz]; simp; omega
      rw [decide_eq_false (fun h => by have := (hiff.1 h).2; omega)]
      clear hiff h0 h1 hvz hvn
      go_enter Tryz.func49, Tryz.ntmps49
      go_wp2_with fail
      with_reducible refine (hkey _).mono ?_
      rintro e w1 ⟨rfl, rfl⟩
      go_wp2_with fail
      go_ret
      exact ⟨rfl, hb⟩
  · have e0 : ((b : Int) == 0) = false := by simp; omega
    have e0' : decide ((b : Int) = 0) = false := by simp; omega
    have e0'' : decide (b = 0) = false := by simpa using hb0
    by_cases h1 : 2 ≤ b
    rotate_left
    · have e1 : decide ((2 : Int) ≤ (b : Int)) = false := decide_eq_false (by omega)
      have e1' : decide (2 ≤ b) = false := decide_eq_false (by omega)
      rw [decide_eq_false (fun h => by have h9 := (hiff.1 h).2; rcases h9 with h9 | h9; exact absurd h9.1 hb0; exact h1 h9.1)]
      clear hiff h0 hb0  h1 hvz hvn
      go_enter Tryz.func49, Tryz.ntmps49
      go_wp2_with fail
      with_reducible refine (hkey _).mono ?_
      rintro e w1 ⟨rfl, rfl⟩
      go_wp2_with fail
      go_ret
      exact ⟨rfl, hb⟩
    have e1 : decide ((2 : Int) ≤ (b : Int)) = true := decide_eq_true (by omega)
    have e1' : decide (2 ≤ b) = true := decide_eq_true (by omega)
    by_cases h2 : b < 64
    rotate_left
    · have e2 : decide ((b : Int) < 64) = false := decide_eq_false (by omega)
      have e2' : decide (b < 64) = false := decide_eq_false (by omega)
      rw [decide_eq_false (fun h => by have h9 := (hiff.1 h).2; rcases h9 with h9 | h9; exact absurd h9.1 hb0; exact h2 h9.2.1)]
      clear hiff h0 hb0 h1 h2 hvz hvn
      go_enter Tryz.func49, Tryz.ntmps49
      go_wp2_with fail
      with_reducible refine (hkey _).mono ?_
      rintro e w1 ⟨rfl, rfl⟩
      go_wp2_with fail
      go_ret
      exact ⟨rfl, hb⟩
    have e2 : decide ((b : Int) < 64) = true := decide_eq_true (by omega)
    have e2' : decide (b < 64) = true := decide_eq_true (by omega)
    by_cases h3 : v = []
    rotate_left
    · have e3 : ¬ V.toList = [] := fun e => h3 (hvn.1 e)
      have e3a : (V.toList == []) = false := by simpa using e3
      have e3b : decide (V.toList = []) = false := by simpa using e3
      rw [decide_eq_false (fun h => by have h9 := (hiff.1 h).2; rcases h9 with h9 | h9; exact absurd h9.1 hb0; exact h3 h9.2.2.1)]
      clear hiff h0 hb0 h1 h2 h3 hvz hvn
      go_enter Tryz.func49, Tryz.ntmps49
      go_wp2_with fail
      with_reducible refine (hkey _).mono ?_
      rintro e w1 ⟨rfl, rfl⟩
      go_wp2_with fail
      go_ret
      exact ⟨rfl, hb⟩
    have e3 : V.toList = [] := hvn.2 h3
    have e3a : (V.toList == []) = true := by simpa using e3
    have e3b : decide (V.toList = []) = true := by simpa using e3
    by_cases h4 : 40 < z
    rotate_left
    · have e4 : decide ((40 : Int) < (z : Int)) = false := decide_eq_false (by omega)
      have e4' : decide (40 < z) = false := decide_eq_false (by omega)
      rw [decide_eq_false (fun h => by have h9 := (hiff.1 h).2; rcases h9 with h9 | h9; exact absurd h9.1 hb0; exact h4 h9.2.2.2.1)]
      clear hiff h0 hb0 h1 h2 h3 h4 hvz hvn
      go_enter Tryz.func49, Tryz.ntmps49
      go_wp2_with fail
      with_reducible refine (hkey _).mono ?_
      rintro e w1 ⟨rfl, rfl⟩
      go_wp2_with fail
      go_ret
      exact ⟨rfl, hb⟩
    have e4 : decide ((40 : Int) < (z : Int)) = true := decide_eq_true (by omega)
    have e4' : decide (40 < z) = true := decide_eq_true (by omega)
    by_cases h5 : z ≤ 400
    rotate_left
    · have e5 : decide ((z : Int) ≤ 400) = false := decide_eq_false (by omega)
      have e5' : decide (z ≤ 400) = false := decide_eq_false (by omega)
      rw [decide_eq_false (fun h => by have h9 := (hiff.1 h).2; rcases h9 with h9 | h9; exact absurd h9.1 hb0; exact h5 h9.2.2.2.2)]
      clear hiff h0 hb0 h1 h2 h3 h4 h5 hvz hvn
      go_enter Tryz.func49, Tryz.ntmps49
      go_wp2_with fail
      with_reducible refine (hkey _).mono ?_
      rintro e w1 ⟨rfl, rfl⟩
      go_wp2_with fail
      go_ret
      exact ⟨rfl, hb⟩
    have e5 : decide ((z : Int) ≤ 400) = true := decide_eq_true (by omega)
    have e5' : decide (z ≤ 400) = true := decide_eq_true (by omega)
    rw [decide_eq_true (hiff.2 ⟨h0, .inr ⟨h1, h2, h3, h4, h5⟩⟩)]
    clear hiff h0 hb0 h1 h2 h3 h4 h5 hvz hvn
    go_enter Tryz.func49, Tryz.ntmps49
    go_wp2_with fail
    with_reducible refine (hkey _).mono ?_
    rintro e w1 ⟨rfl, rfl⟩
    go_wp2_with fail
    go_ret
    exact ⟨rfl, hb⟩

set_option maxRecDepth 100000 in
theorem size_any (c : Cel) (w : World) (hk : c.key.length ≤ 1000) (hv : c.val.length ≤ 1000) :
    Calls Tryz.prog 244 #[c.v] w fun e w' => e = .returned (.int .i64 c.sz) ∧ Below w.heap.size w w' := by
  obtain ⟨k, v, b, z⟩ := c
  simp only at hk hv
  simp only [Cel.v, Cel.sz]
  have hkz : (str k).size = k.length := str_size k
  have hvz : (str v).size = v.length := str_size v
  obtain ⟨K, hK⟩ : ∃ K, K = str k := ⟨_, rfl⟩
  obtain ⟨V, hV⟩ : ∃ V, V = str v := ⟨_, rfl⟩
  rw [← hK] at hkz ⊢
  rw [← hV] at hvz ⊢
  have hc := blk_cell (heap_alloc_new w (celO K V b z))
  have hb := below_al (Below.refl _ w) (celO K V b z)
  have i1 : IntKind.i64.wrap (4 + (K.size : Int)) = 4 + (K.size : Int) := IntWalk.i64_in _ (by omega)
  have i2 : IntKind.i64.wrap (4 + (K.size : Int) + (V.size : Int)) = 4 + (K.size : Int) + (V.size : Int) := IntWalk.i64_in _ (by omega)
  have i3 : IntKind.i64.wrap (4 + (K.size : Int) + 2) = 4 + (K.size : Int) + 2 := IntWalk.i64_in _ (by omega)
  clear hK hV
  by_cases hb0 : b = 0
  · subst hb0
    have e : ((4 + k.length + (if (0 : Nat) = 0 then v.length else 2) : Nat) : Int) = 4 + (K.size : Int) + (V.size : Int) := by rw [if_pos rfl]; omega
    rw [e]
    clear e hk hv hkz hvz
    go_enter Tryz.func244, Tryz.ntmps244
    go_wp2_with fail
    go_ret
    exact ⟨rfl, hb⟩
  · have e0 : ((b : Int) == 0) = false := by simp; omega
    have e0' : decide ((b : Int) = 0) = false := by simp; omega
    have e0'' : decide (b = 0) = false := by simpa using hb0
    have e : ((4 + k.length + (if b = 0 then v.length else 2) : Nat) : Int) = 4 + (K.size : Int) + 2 := by rw [if_neg hb0]; omega
    rw [e]
    clear e hk hv hkz hvz hb0
    go_enter Tryz.func244, Tryz.ntmps244
    go_wp2_with fail
    go_ret
    exact ⟨rfl, hb⟩

theorem conv2 (W : World) (g cap : Nat) (a b : Nat) (ha : a < 256) (hb : b < 256) (h0 : W.cell? ⟨g, 0, none⟩ = some (.int .u8 a)) (h1 : W.cell? ⟨g, 1, none⟩ = some (.int .u8 b)) :
    (convert 43 9 (.slice (some ⟨g, 0, none⟩) 2 cap)).run Tryz.prog W = .ok (.string (str [UInt8.ofNat a, UInt8.ofNat b])) W := by
  have hc : ∀ i, i < 2 → W.cell? ⟨g, 0 + i, none⟩ = some (.int .u8 ([(a : Int), (b : Int)].getD i 0)) := fun i hi => by
    rcases (show i = 0 ∨ i = 1 by omega) with rfl | rfl
    · simpa using h0
    · simpa using h1
  have := run_convert_bytes_arg (P := Tryz.prog) W 43 5 Tryz.underlying43 Tryz.underlying5 g 0 2 cap [(a : Int), (b : Int)] rfl hc 9 Tryz.underlying9
  rw [this]
  simp [strOfNums]
theorem conv1 (W : World) (g cap : Nat) (a : Nat) (ha : a < 256) (h0 : W.cell? ⟨g, 0, none⟩ = some (.int .u8 a)) :
    (convert 43 9 (.slice (some ⟨g, 0, none⟩) 1 cap)).run Tryz.prog W = .ok (.string (str [UInt8.ofNat a])) W := by
  have hc : ∀ i, i < 1 → W.cell? ⟨g, 0 + i, none⟩ = some (.int .u8 ([(a : Int)].getD i 0)) := fun i hi => by
    obtain rfl : i = 0 := by omega
    simpa using h0
  have := run_convert_bytes_arg (P := Tryz.prog) W 43 5 Tryz.underlying43 Tryz.underlying5 g 0 1 cap [(a : Int)] rfl hc 9 Tryz.underlying9
  rw [this]
  simp [strOfNums]
set_option maxRecDepth 100000 in
theorem number_any (n : Nat) (hn : n < 65536) (w : World) :
    Calls Tryz.prog 279 #[.int .i64 n] w fun e w' => e = .returned (.string (str (num2 n))) ∧ Below w.heap.size w w' := by
  have hcv : (convert 43 9 (.slice (some ⟨w.heap.size, 0, none⟩) 2 2)).run Tryz.prog (w.alloc (.cells #[.int .u8 ((n : Int) / 256), .int .u8 ((n : Int) % 256)] 5)) = .ok (.string (str (num2 n))) (w.alloc (.cells #[.int .u8 ((n : Int) / 256), .int .u8 ((n : Int) % 256)] 5)) := by
    have hc := blk_cell (heap_alloc_new w (.cells #[.int .u8 ((n : Int) / 256), .int .u8 ((n : Int) % 256)] 5))
    have e1 : (n : Int) / 256 = ((n / 256 : Nat) : Int) := by omega
    have e2 : (n : Int) % 256 = ((n % 256 : Nat) : Int) := by omega
    rw [e1, e2] at hc ⊢
    exact conv2 _ _ 2 (n / 256) (n % 256) (by omega) (by omega) (hc 0) (hc 1)
  have hb := below_al (Below.refl _ w) (.cells #[.int .u8 ((n : Int) / 256), .int .u8 ((n : Int) % 256)] 5)
  generalize str (num2 n) = S at *
  go_enter Tryz.func279, Tryz.ntmps279
  go_wp2_with fail
  go_ret
  exact ⟨rfl, hb⟩
theorem str_app (a b : List UInt8) : str a ++ str b = str (a ++ b) := by
  apply ByteArray.ext
  apply Array.toList_inj.1
  simp
set_option maxRecDepth 100000 in
set_option maxHeartbeats 2000000 in
theorem put_any (c : Cel) (hc : c.ok) (w : World) :
    Calls Tryz.prog 249 #[c.v] w fun e w' => e = .returned (.string (str c.enc)) ∧ Below w.heap.size w w' := by
  have hk16 := hc.key.2
  have hrest := hc.rest
  obtain ⟨k, v, b, z⟩ := c
  simp only at hk16 hrest
  simp only [Cel.v]
  have hnz := fun W (h : z < 65536) => number_any z h W
  have hnb := fun W (h : b < 65536) => number_any b h W
  have hnv := fun W (h : v.length < 65536) => number_any v.length h W
  have hkz : (str k).size = k.length := str_size k
  have hvz : (str v).size = v.length := str_size v
  have henc : ∀ m y : List UInt8, str [UInt8.ofNat k.length] ++ str k ++ ⟨#[0]⟩ ++ str m ++ str y = str (UInt8.ofNat k.length :: k ++ (0 :: m ++ y)) := fun m y => by
    have e : (⟨#[0]⟩ : ByteArray) = str [0] := rfl
    rw [e, str_app, str_app, str_app, str_app]
    congr 1
    simp
  have henc1 : ∀ m y : List UInt8, str [UInt8.ofNat k.length] ++ str k ++ ⟨#[1]⟩ ++ str m ++ str y = str (UInt8.ofNat k.length :: k ++ (1 :: m ++ y)) := fun m y => by
    have e : (⟨#[1]⟩ : ByteArray) = str [1] := rfl
    rw [e, str_app, str_app, str_app, str_app]
    congr 1
    simp
  have ek := henc (num2 v.length) v
  have ek1 := henc1 (num2 z) (num2 b)
  have hcv : ∀ W : World, W.cell? ⟨w.heap.size + 1, 0, none⟩ = some (.int .u8 (k.length : Nat)) → (convert 43 9 (.slice (some ⟨w.heap.size + 1, 0, none⟩) 1 1)).run Tryz.prog W = .ok (.string (str [UInt8.ofNat k.length])) W := fun W h => conv1 W _ 1 k.length (by omega) h
  unfold Cel.enc
  simp only
  obtain ⟨K, hK⟩ : ∃ K, K = str k := ⟨_, rfl⟩
  obtain ⟨V, hV⟩ : ∃ V, V = str v := ⟨_, rfl⟩
  obtain ⟨U, hU⟩ : ∃ U, U = str [UInt8.ofNat k.length] := ⟨_, rfl⟩
  obtain ⟨NZ, hNZ⟩ : ∃ N, N = str (num2 z) := ⟨_, rfl⟩
  obtain ⟨NB, hNB⟩ : ∃ N, N = str (num2 b) := ⟨_, rfl⟩
  obtain ⟨NV, hNV⟩ : ∃ N, N = str (num2 v.length) := ⟨_, rfl⟩
  rw [← hK] at hkz ek ek1 ⊢
  rw [← hV] at hvz ek ⊢
  have hUs : U.size = 1 := by rw [hU, str_size]; rfl
  have hZs : NZ.size = 2 := by rw [hNZ, str_size]; rfl
  have hBs : NB.size = 2 := by rw [hNB, str_size]; rfl
  have hVs : NV.size = 2 := by rw [hNV, str_size]; rfl
  rw [← hU] at hcv ek ek1
  rw [← hNZ] at hnz ek1
  rw [← hNB] at hnb ek1
  rw [← hNV] at hnv ek
  rw [← hkz] at hcv
  rw [← hvz] at hnv
  have hk0 := heap_alloc_new w (celO K V b z)
  have hb0 := below_al (Below.refl _ w) (celO K V b z)
  have hc0 := blk_cell hk0
  have hk16' : K.size ≤ 16 := by omega
  obtain ⟨R0, hR0⟩ : ∃ R, R = str (UInt8.ofNat k.length :: k ++ (0 :: num2 v.length ++ v)) := ⟨_, rfl⟩
  obtain ⟨R1, hR1⟩ : ∃ R, R = str (UInt8.ofNat k.length :: k ++ (1 :: num2 z ++ num2 b)) := ⟨_, rfl⟩
  rw [← hR0] at ek
  rw [← hR1] at ek1
  have Ek := Lib.hid ek
  have Ek1 := Lib.hid ek1
  clear hK hV hU hNZ hNB hNV henc henc1 hc ek ek1
  by_cases hb : b = 0
  · have hv16 : V.size < 65536 := by omega
    have hv40 : V.size ≤ 40 := by omega
    rw [if_pos hb, ← hR0]
    clear hR0 hR1
    subst hb
    clear hrest hnz hnb hkz hvz hk16
    go_enter Tryz.func249, Tryz.ntmps249
    go_wp2_with fail
    refine wp_region_held_drew (S := (fun W' => Below w.heap.size w W' ∧ W'.heap[w.heap.size]? = some (.cells #[.string K, .string V, .int .i64 ((0 : Nat) : Int), .int .i64 (z : Int)] 33 (0, 0)))) (by kernel_rfl) (⟨below_dr (below_al hb0 (.cells #[.int .u8 (K.size : Int)] 5)), hal (o := .cells #[.int .u8 (K.size : Int)] 5) hk0⟩) (fun hHeld => ?_)
    refine Ra.W 0 ?_ ?_ hHeld ?_
    rotate_left
    · intro wq hSw
      go_simp
      try with_reducible rfl
    try simp only [Act.put, List.getElem_toArray, List.getElem_cons_succ, List.getElem_cons_zero, List.setIfInBounds_toArray, List.set_cons_zero, List.set_cons_succ]
    refine Ra.W 1 ?_ ?_ hHeld ?_
    rotate_left
    · intro wq hSw
      go_simp
      try rw [if_neg (by omega)]
      try rw [if_pos (by omega)]
      try with_reducible rfl
    try simp only [Act.put, List.getElem_toArray, List.getElem_cons_succ, List.getElem_cons_zero, List.setIfInBounds_toArray, List.set_cons_zero, List.set_cons_succ]
    refine Ra.W 2 ?_ ?_ hHeld ?_
    rotate_left
    · intro wq hSw
      go_simp
      try with_reducible rfl
    try simp only [Act.put, List.getElem_toArray, List.getElem_cons_succ, List.getElem_cons_zero, List.setIfInBounds_toArray, List.set_cons_zero, List.set_cons_succ]
    refine Ra.W 3 ?_ ?_ hHeld ?_
    rotate_left
    · intro wq hSw
      have hSc := blk_cell hSw.2; have hSl := lt_of_block hSw.2
      go_simp
      try with_reducible rfl
    try simp only [Act.put, List.getElem_toArray, List.getElem_cons_succ, List.getElem_cons_zero, List.setIfInBounds_toArray, List.set_cons_zero, List.set_cons_succ]
    refine Ra.W 4 ?_ ?_ hHeld ?_
    rotate_left
    · intro wq hSw
      have hSc := blk_cell hSw.2; have hSl := lt_of_block hSw.2
      go_simp
      try rw [if_neg (by omega)]
      try rw [if_pos (by omega)]
      try with_reducible rfl
    try simp only [Act.put, List.getElem_toArray, List.getElem_cons_succ, List.getElem_cons_zero, List.setIfInBounds_toArray, List.set_cons_zero, List.set_cons_succ]
    refine Ra.W 7 ?_ ?_ hHeld ?_
    rotate_left
    · intro wq hSw
      go_simp
      try with_reducible rfl
    try simp only [Act.put, List.getElem_toArray, List.getElem_cons_succ, List.getElem_cons_zero, List.setIfInBounds_toArray, List.set_cons_zero, List.set_cons_succ]
    refine Ra.W 8 ?_ ?_ hHeld ?_
    rotate_left
    · intro wq hSw
      have hSc := blk_cell hSw.2; have hSl := lt_of_block hSw.2
      go_simp
      try with_reducible rfl
    try simp only [Act.put, List.getElem_toArray, List.getElem_cons_succ, List.getElem_cons_zero, List.setIfInBounds_toArray, List.set_cons_zero, List.set_cons_succ]
    refine wpAnyH_ready (rs := [5]) (by kernel_rfl) (by simp) ?_
    refine AllReadyH.cons rfl (fun K hK => ?_) AllReadyH.nil
    rw [if_pos (by kernel_rfl)]
    go_simp
    (with_reducible refine (hnv _ hv16).mono ?_)
    rintro e w2 ⟨rfl, hb2⟩
    go_simp
    refine hK.out _ _ (⟨below_base hHeld.1 hHeld.1.size hb2, blk_keep hHeld.2 hb2⟩) (fun hHeld2 => ?_)
    clear hK K
    try clear hHeld
    have hHeld := hHeld2
    try clear hHeld2
    refine Ra.W 6 ?_ ?_ hHeld ?_
    rotate_left
    · intro wq hSw
      go_simp
      try rw [if_neg (by omega)]
      try rw [if_pos (by omega)]
      try with_reducible rfl
    try simp only [Act.put, List.getElem_toArray, List.getElem_cons_succ, List.getElem_cons_zero, List.setIfInBounds_toArray, List.set_cons_zero, List.set_cons_succ]
    refine Ra.W 9 ?_ ?_ hHeld ?_
    rotate_left
    · intro wq hSw
      go_simp
      try rw [if_neg (by omega)]
      try rw [if_pos (by omega)]
      try with_reducible rfl
    try simp only [Act.put, List.getElem_toArray, List.getElem_cons_succ, List.getElem_cons_zero, List.setIfInBounds_toArray, List.set_cons_zero, List.set_cons_succ]
    refine Ra.W 10 ?_ ?_ hHeld ?_
    rotate_left
    · intro wq hSw
      go_simp
      try with_reducible rfl
    try simp only [Act.put, List.getElem_toArray, List.getElem_cons_succ, List.getElem_cons_zero, List.setIfInBounds_toArray, List.set_cons_zero, List.set_cons_succ]
    refine wpAnyH_done (by kernel_rfl) ?_ _
    have Hh := Lib.hid hHeld
    clear hHeld
    go_wp2_with fail
    go_ret
    exact ⟨by (rw [Ek.out]; rfl), Hh.out.1⟩
  · have e0 : ((b : Int) == 0) = false := by simp; omega
    have e0' : decide ((b : Int) = 0) = false := by simp; omega
    have e0'' : decide (b = 0) = false := by simpa using hb
    have hz16 : z < 65536 := by omega
    have hb16 : b < 65536 := by omega
    rw [if_neg hb, ← hR1]
    clear hR0 hR1
    clear hrest hnv hkz hvz hk16 hb
    go_enter Tryz.func249, Tryz.ntmps249
    go_wp2_with fail
    refine wp_region_held_drew (S := (fun W' => Below w.heap.size w W' ∧ W'.heap[w.heap.size]? = some (.cells #[.string K, .string V, .int .i64 (b : Int), .int .i64 (z : Int)] 33 (0, 0)))) (by kernel_rfl) (⟨below_dr (below_al hb0 (.cells #[.int .u8 (K.size : Int)] 5)), hal (o := .cells #[.int .u8 (K.size : Int)] 5) hk0⟩) (fun hHeld => ?_)
    refine Ra.W 0 ?_ ?_ hHeld ?_
    rotate_left
    · intro wq hSw
      go_simp
      try with_reducible rfl
    try simp only [Act.put, List.getElem_toArray, List.getElem_cons_succ, List.getElem_cons_zero, List.setIfInBounds_toArray, List.set_cons_zero, List.set_cons_succ]
    refine Ra.W 1 ?_ ?_ hHeld ?_
    rotate_left
    · intro wq hSw
      go_simp
      try rw [if_neg (by omega)]
      try rw [if_pos (by omega)]
      try with_reducible rfl
    try simp only [Act.put, List.getElem_toArray, List.getElem_cons_succ, List.getElem_cons_zero, List.setIfInBounds_toArray, List.set_cons_zero, List.set_cons_succ]
    refine Ra.W 2 ?_ ?_ hHeld ?_
    rotate_left
    · intro wq hSw
      go_simp
      try with_reducible rfl
    try simp only [Act.put, List.getElem_toArray, List.getElem_cons_succ, List.getElem_cons_zero, List.setIfInBounds_toArray, List.set_cons_zero, List.set_cons_succ]
    refine Ra.W 3 ?_ ?_ hHeld ?_
    rotate_left
    · intro wq hSw
      have hSc := blk_cell hSw.2; have hSl := lt_of_block hSw.2
      go_simp
      try with_reducible rfl
    try simp only [Act.put, List.getElem_toArray, List.getElem_cons_succ, List.getElem_cons_zero, List.setIfInBounds_toArray, List.set_cons_zero, List.set_cons_succ]
    refine Ra.W 6 ?_ ?_ hHeld ?_
    rotate_left
    · intro wq hSw
      go_simp
      try with_reducible rfl
    try simp only [Act.put, List.getElem_toArray, List.getElem_cons_succ, List.getElem_cons_zero, List.setIfInBounds_toArray, List.set_cons_zero, List.set_cons_succ]
    refine Ra.W 7 ?_ ?_ hHeld ?_
    rotate_left
    · intro wq hSw
      have hSc := blk_cell hSw.2; have hSl := lt_of_block hSw.2
      go_simp
      try with_reducible rfl
    try simp only [Act.put, List.getElem_toArray, List.getElem_cons_succ, List.getElem_cons_zero, List.setIfInBounds_toArray, List.set_cons_zero, List.set_cons_succ]
    refine wpAnyH_ready (rs := [4]) (by kernel_rfl) (by simp) ?_
    refine AllReadyH.cons rfl (fun K hK => ?_) AllReadyH.nil
    rw [if_pos (by kernel_rfl)]
    go_simp
    (with_reducible refine (hnz _ hz16).mono ?_)
    rintro e w2 ⟨rfl, hb2⟩
    go_simp
    refine hK.out _ _ (⟨below_base hHeld.1 hHeld.1.size hb2, blk_keep hHeld.2 hb2⟩) (fun hHeld2 => ?_)
    clear hK K
    try clear hHeld
    have hHeld := hHeld2
    try clear hHeld2
    refine Ra.W 5 ?_ ?_ hHeld ?_
    rotate_left
    · intro wq hSw
      go_simp
      try rw [if_neg (by omega)]
      try rw [if_pos (by omega)]
      try with_reducible rfl
    try simp only [Act.put, List.getElem_toArray, List.getElem_cons_succ, List.getElem_cons_zero, List.setIfInBounds_toArray, List.set_cons_zero, List.set_cons_succ]
    refine wpAnyH_ready (rs := [8]) (by kernel_rfl) (by simp) ?_
    refine AllReadyH.cons rfl (fun K hK => ?_) AllReadyH.nil
    rw [if_pos (by kernel_rfl)]
    go_simp
    (with_reducible refine (hnb _ hb16).mono ?_)
    rintro e w2 ⟨rfl, hb2⟩
    go_simp
    refine hK.out _ _ (⟨below_base hHeld.1 hHeld.1.size hb2, blk_keep hHeld.2 hb2⟩) (fun hHeld2 => ?_)
    clear hK K
    try clear hHeld
    have hHeld := hHeld2
    try clear hHeld2
    refine Ra.W 9 ?_ ?_ hHeld ?_
    rotate_left
    · intro wq hSw
      go_simp
      try rw [if_neg (by omega)]
      try rw [if_pos (by omega)]
      try with_reducible rfl
    try simp only [Act.put, List.getElem_toArray, List.getElem_cons_succ, List.getElem_cons_zero, List.setIfInBounds_toArray, List.set_cons_zero, List.set_cons_succ]
    refine Ra.W 10 ?_ ?_ hHeld ?_
    rotate_left
    · intro wq hSw
      go_simp
      try with_reducible rfl
    try simp only [Act.put, List.getElem_toArray, List.getElem_cons_succ, List.getElem_cons_zero, List.setIfInBounds_toArray, List.set_cons_zero, List.set_cons_succ]
    refine wpAnyH_done (by kernel_rfl) ?_ _
    have Hh := Lib.hid hHeld
    clear hHeld
    go_wp2_with fail
    go_ret
    exact ⟨by (rw [Ek1.out]; rfl), Hh.out.1⟩
end Go.Proofs.YtijhamllnnilbaaGreatDoor.Ha
