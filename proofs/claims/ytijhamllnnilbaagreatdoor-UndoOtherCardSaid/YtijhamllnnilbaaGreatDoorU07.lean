/- Lemmas of the claim, in their order:
- The contract of package cell's Get, of bytes that are cells.
-/
import Derived.Test.YtijhamllnnilbaaGreatDoorU06
set_option linter.unusedVariables false
set_option linter.unusedSimpArgs false
namespace Go.Proofs.YtijhamllnnilbaaGreatDoor.Ha
open Go.RowKit Go.Proofs.YtijhamllnnilbaaGreatDoor.Mem Go.Proofs.YtijhamllnnilbaaGreatDoor.Pg Go.Proofs.YtijhamllnnilbaaGreatDoor.Kp Go.Proofs.YtijhamllnnilbaaGreatDoor.Sp Go.Proofs.YtijhamllnnilbaaGreatDoor.Gr
set_option linter.unusedSimpArgs false
set_option linter.unusedVariables false
/-- A reader that has so many bytes left. -/
def RdIs (w : World) (rb : Nat) (l : List UInt8) : Prop := w.heap[rb]? = some (.cells #[.string (str l), .bool false] 334 (0, 0))
theorem ext_take (l : List UInt8) (n : Nat) : (str l).extract 0 n = str (l.take n) := by
  apply ByteArray.ext
  simp [str]
theorem ext_drop (l : List UInt8) (n : Nat) : (str l).extract n (str l).size = str (l.drop n) := by
  apply ByteArray.ext
  simp [str]
  rw [List.take_of_length_le (by simp [ByteArray.size])]
set_option maxRecDepth 100000 in
theorem rtake_ok (w : World) (rb : Nat) (l : List UInt8) (n : Nat) (hr : RdIs w rb l) (hn : n ≤ l.length) (hl : l.length ≤ 1000) :
    Calls Tryz.prog 277 #[.pointer (some ⟨rb, 0, none⟩), .int .i64 n] w fun e w' => e = .returned (.string (str (l.take n))) ∧ RdIs w' rb (l.drop n) ∧ Keep (fun j => j = rb) w w' ∧ w'.heap.size = w.heap.size := by
  unfold RdIs at hr ⊢
  have h1 := ext_take l n
  have h2 := ext_drop l n
  have hsz := str_size l
  rw [hsz] at h2
  obtain ⟨S, hS⟩ : ∃ S, S = str l := ⟨_, rfl⟩
  rw [← hS] at hr h1 h2 hsz
  have hres : ((w.setCell ⟨rb, 1, none⟩ (.bool false)).setCell ⟨rb, 0, none⟩ (.string (str (l.drop n)))).heap[rb]? = some (.cells #[.string (str (l.drop n)), .bool false] 334 (0, 0)) :=
    heap_setCell_same _ rb 0 _ _ _ (heap_setCell_same w rb 1 _ _ (.bool false) hr)
  have hkeep : Keep (fun j => j = rb) w ((w.setCell ⟨rb, 1, none⟩ (.bool false)).setCell ⟨rb, 0, none⟩ (.string (str (l.drop n)))) := Keep.setCell (S := fun j => j = rb) (Keep.setCell (S := fun j => j = rb) (Keep.refl _ w) (.inl rfl) _) (.inl rfl) _
  have hsame : ((w.setCell ⟨rb, 1, none⟩ (.bool false)).setCell ⟨rb, 0, none⟩ (.string (str (l.drop n)))).heap.size = w.heap.size := by simp
  have c1 := blk_cell hr
  have f1 := blk_free hr
  have z1 := lt_of_block hr
  have c2 := blk_cell (heap_setCell_same w rb 1 _ _ (.bool false) hr)
  have f2 := blk_free (heap_setCell_same w rb 1 _ _ (.bool false) hr)
  have hS1 : (n : Int) ≤ (l.length : Int) := by omega
  have d1 : decide ((l.length : Int) < (n : Int)) = false := decide_eq_false (by omega)
  have HR := Lib.hid hres
  have HK := Lib.hid hkeep
  have HS := Lib.hid hsame
  generalize str (l.take n) = A at *
  generalize str (l.drop n) = B at *
  clear hr hS hres hkeep hl hsame
  go_enter Tryz.func277, Tryz.ntmps277
  go_wp2_with fail
  go_ret
  refine ⟨rfl, ?_⟩
  exact ⟨HR.out, HK.out, HS.out⟩
/-- A number in bytes. -/
def valF (l : List UInt8) : Nat := l.foldl (fun v b => v * 256 + b.toNat) 0
theorem valF_step (l : List UInt8) (j : Nat) (hj : j < l.length) : valF (l.take (j + 1)) = valF (l.take j) * 256 + l[j].toNat := by
  rw [List.take_succ_eq_append_getElem hj]
  unfold valF
  rw [List.foldl_append]
  rfl
theorem or_code' {a b : Nat} (ha : a ≤ 255) (hb : b ≤ 255) : bits .or .i64 ((a : Int) * 256) (b : Int) = ((a * 256 + b : Nat) : Int) := by
  have e : ((a : Int) * 256) = ((a * 256 : Nat) : Int) := by omega
  rw [e]
  have h1 : (BitVec.ofInt 64 ((a * 256 : Nat) : Int)).toNat = a * 256 := u64_nat _ (by omega)
  have h2 : (BitVec.ofInt 64 (b : Int)).toNat = b := u64_nat _ (by omega)
  have h3 : a * 256 ||| b = a * 256 + b := by
    have := Nat.shiftLeft_add_eq_or_of_lt (i := 8) (show b < 2 ^ 8 by omega) a
    rw [Nat.shiftLeft_eq, show (2 : Nat) ^ 8 = 256 from rfl] at this
    omega
  show IntKind.i64.wrap ((BitVec.ofInt 64 ((a * 256 : Nat) : Int) ||| BitVec.ofInt 64 (b : Int)).toNat : Int) = _
  rw [BitVec.toNat_or, h1, h2, h3, IntWalk.i64_in _ (by omega)]
set_option maxRecDepth 100000 in
theorem rnum_ok (w : World) (rb : Nat) (l : List UInt8) (n : Nat) (hr : RdIs w rb l) (hn : n ≤ l.length) (h2 : n ≤ 2) (hl : l.length ≤ 1000) :
    Calls Tryz.prog 245 #[.pointer (some ⟨rb, 0, none⟩), .int .i64 n] w fun e w' => e = .returned (.int .i64 (valF (l.take n))) ∧ RdIs w' rb (l.drop n) ∧ Keep (fun j => j = rb) w w' ∧ w'.heap.size = w.heap.size := by
  have ht := rtake_ok w rb l n hr hn hl
  have htl : (l.take n).length = n := by rw [List.length_take]; omega
  generalize l.take n = m at *
  have hsz := str_size m
  have hbt : ∀ (i : Nat) (h : i < (str m).size), (((str m)[i]'h).toNat : Int) = bt m i := str_bt m
  rw [htl] at hsz
  obtain ⟨S, hS⟩ : ∃ S, S = str m := ⟨_, rfl⟩
  rw [← hS] at hsz ht
  have Hbt : Hid (∀ (i : Nat) (h : i < S.size), ((S[i]'h).toNat : Int) = bt m i) := Lib.hid (by rw [hS]; exact hbt)
  have Hz := Lib.hid hsz
  clear hS hbt hr hn hl
  have hz : (S.size : Int) = (n : Int) := by omega
  go_enter Tryz.func245, Tryz.ntmps245
  go_wp2_with fail
  with_reducible refine ht.mono ?_
  rintro e w1 ⟨rfl, hr1, hk1, hs1⟩
  have Hs1 := Lib.hid hs1
  clear hs1 ht
  go_wp2_with fail
  go_loopw [5, 13] (fun v i wr => ∃ j : Nat, v = .int .i64 (valF (m.take j)) ∧ i = .int .i64 j ∧ j ≤ n ∧ wr = w1) (fun _ i _ => n - (intOf i).toNat)
  case atStart => exact ⟨0, rfl, rfl, Nat.zero_le _, rfl⟩
  case round =>
    obtain ⟨j, rfl, rfl, hj, rfl⟩ := hrel
    by_cases hlt : j < n
    · have hjS : j < S.size := by omega
      have b1 := Hbt.out j hjS
      have hb : bt m j = ((m[j].toNat : Nat) : Int) := by unfold bt; rw [List.getD_eq_getElem?_getD, List.getElem?_eq_getElem (by omega), Option.getD_some]
      have hbl : m[j].toNat ≤ 255 := by have := m[j].toNat_lt; omega
      have hst := valF_step m j (by omega)
      have hv : valF (m.take j) ≤ 255 := by
        rcases (show j = 0 ∨ j = 1 from by omega) with rfl | rfl
        · simp [valF]
        · have h9 := valF_step m 0 (by omega)
          have := m[0].toNat_lt
          simp [valF] at h9 ⊢
          omega
      rw [hb] at b1
      generalize valF (m.take j) = V at *
      have hor := or_code' hv hbl
      have i1 : IntKind.i64.wrap ((j : Int) + 1) = (j : Int) + 1 := IntWalk.i64_in _ (by omega)
      have i2 : IntKind.i64.wrap ((V : Int) * 256) = (V : Int) * 256 := IntWalk.i64_in _ (by omega)
      have d1 : decide ((j : Int) < (n : Int)) = true := by simpa using hlt
      have hjS' : (j : Int) < (S.size : Int) := by omega
      clear hb
      go_wp2_with fail
      refine ⟨⟨j + 1, by rw [hst]; simp, by simp, by omega, trivial⟩, ?_⟩
      clear i1 i2
      simp [intOf]; omega
    · obtain rfl : j = n := by omega
      have htk : m.take j = m := List.take_of_length_le (by omega)
      rw [htk]
      go_wp2_with fail
      go_ret
      exact ⟨rfl, hr1, hk1, Hs1.out⟩
theorem valF_two (m : Nat) (h : m < 65536) : valF (num2 m) = m := by
  have h1 : (UInt8.ofNat (m / 256)).toNat = m / 256 := by rw [UInt8.toNat_ofNat']; exact Nat.mod_eq_of_lt (by omega)
  have h2 : (UInt8.ofNat (m % 256)).toNat = m % 256 := by rw [UInt8.toNat_ofNat']; exact Nat.mod_eq_of_lt (by omega)
  simp only [valF, num2, List.foldl_cons, List.foldl_nil, h1, h2]
  omega
theorem valF_one (m : Nat) (h : m < 256) : valF [UInt8.ofNat m] = m := by
  have h1 : (UInt8.ofNat m).toNat = m := by rw [UInt8.toNat_ofNat']; exact Nat.mod_eq_of_lt (by omega)
  simp only [valF, List.foldl_cons, List.foldl_nil, h1]
  omega
/-- A part that stands in front is taken. -/
theorem rtake_app (w : World) (rb : Nat) (a r : List UInt8) (n : Nat) (hn : n = a.length) (hr : RdIs w rb (a ++ r)) (hl : (a ++ r).length ≤ 1000) :
    Calls Tryz.prog 277 #[.pointer (some ⟨rb, 0, none⟩), .int .i64 n] w fun e w' => e = .returned (.string (str a)) ∧ RdIs w' rb r ∧ Keep (fun j => j = rb) w w' ∧ w'.heap.size = w.heap.size := by
  have h := rtake_ok w rb (a ++ r) n hr (by rw [List.length_append]; omega) hl
  rw [hn, List.take_left, List.drop_left] at h
  rw [hn]
  exact h
theorem rnum_two (w : World) (rb : Nat) (m : Nat) (r : List UInt8) (hm : m < 65536) (hr : RdIs w rb (num2 m ++ r)) (hl : (num2 m ++ r).length ≤ 1000) :
    Calls Tryz.prog 245 #[.pointer (some ⟨rb, 0, none⟩), .int .i64 2] w fun e w' => e = .returned (.int .i64 m) ∧ RdIs w' rb r ∧ Keep (fun j => j = rb) w w' ∧ w'.heap.size = w.heap.size := by
  have h := rnum_ok w rb (num2 m ++ r) 2 hr (by simp [num2]) (by omega) hl
  have e1 : (num2 m ++ r).take 2 = num2 m := rfl
  have e2 : (num2 m ++ r).drop 2 = r := rfl
  rw [e1, e2, valF_two m hm] at h
  exact h
theorem rnum_one (w : World) (rb : Nat) (m : Nat) (r : List UInt8) (hm : m < 256) (hr : RdIs w rb (UInt8.ofNat m :: r)) (hl : r.length ≤ 900) :
    Calls Tryz.prog 245 #[.pointer (some ⟨rb, 0, none⟩), .int .i64 1] w fun e w' => e = .returned (.int .i64 m) ∧ RdIs w' rb r ∧ Keep (fun j => j = rb) w w' ∧ w'.heap.size = w.heap.size := by
  have h := rnum_ok w rb (UInt8.ofNat m :: r) 1 hr (by simp) (by omega) (by simp; omega)
  have e1 : (UInt8.ofNat m :: r).take 1 = [UInt8.ofNat m] := rfl
  have e2 : (UInt8.ofNat m :: r).drop 1 = r := rfl
  rw [e1, e2, valF_one m hm] at h
  exact h
set_option maxRecDepth 100000 in
theorem rcell_ok (w : World) (rb : Nat) (c : Cel) (r : List UInt8) (hc : c.ok) (hr : RdIs w rb (c.enc ++ r)) (hl : (c.enc ++ r).length ≤ 900) :
    Calls Tryz.prog 246 #[.pointer (some ⟨rb, 0, none⟩)] w fun e w' => e = .returned c.v ∧ RdIs w' rb r ∧ Keep (fun j => j = rb) w w' := by
  have hk16 := hc.key.2
  have hrest := hc.rest
  have hlen := c.enc_len
  obtain ⟨k, v, b, z⟩ := c
  simp only at hk16 hrest
  simp only [Cel.v]
  by_cases hb : b = 0
  · have hv : v.length ≤ 40 := by omega
    have hz : z = 0 := by omega
    subst hb hz
    have e : Cel.enc ⟨k, v, 0, 0⟩ ++ r = UInt8.ofNat k.length :: (k ++ (UInt8.ofNat 0 :: (num2 v.length ++ (v ++ r)))) := by simp [Cel.enc]
    rw [e] at hr hl
    have n1 := fun W h => rnum_one W rb k.length (k ++ (UInt8.ofNat 0 :: (num2 v.length ++ (v ++ r)))) (by omega) h (by simp at hl ⊢; omega)
    have n2 := fun W h => rtake_app W rb k (UInt8.ofNat 0 :: (num2 v.length ++ (v ++ r))) k.length rfl h (by simp at hl ⊢; omega)
    have n3 := fun W h => rnum_one W rb 0 (num2 v.length ++ (v ++ r)) (by omega) h (by simp at hl ⊢; omega)
    have n4 := fun W h => rnum_two W rb v.length (v ++ r) (by omega) h (by simp at hl ⊢; omega)
    have n5 := fun W h => rtake_app W rb v r v.length rfl h (by simp at hl ⊢; omega)
    have Hr := Lib.hid hr
    clear hr e hl hlen hrest hc
    generalize k.length = kn at *
    generalize v.length = vn at *
    generalize str k = K at *
    generalize str v = V at *
    go_enter Tryz.func246, Tryz.ntmps246
    have z0 := heap_alloc_new w (.cells #[.string ⟨#[]⟩, .string ⟨#[]⟩, .int .i64 0, .int .i64 0] 33)
    have hrb : rb < w.heap.size := lt_of_block Hr.out
    have hr0 : RdIs (w.alloc (.cells #[.string ⟨#[]⟩, .string ⟨#[]⟩, .int .i64 0, .int .i64 0] 33)) rb _ := hal Hr.out
    have k0 : Keep (fun j => j = rb) w (w.alloc (.cells #[.string ⟨#[]⟩, .string ⟨#[]⟩, .int .i64 0, .int .i64 0] 33)) := (Keep.refl _ w).alloc _
    go_wp2_with fail
    with_reducible refine (n1 _ hr0).mono ?_
    rintro e w1 ⟨rfl, hr1, k1, s1⟩
    have z1 := k1.blk z0 (by omega)
    have K1 := Lib.hid (k0.trans k1)
    have S1 := Lib.hid s1
    clear k0 k1 s1 z0 hr0 n1
    go_wp2_with fail
    with_reducible refine (n2 _ hr1).mono ?_
    rintro e w2 ⟨rfl, hr2, k2, s2⟩
    have z2 := k2.blk z1 (by omega)
    have K2 := Lib.hid (K1.out.trans k2)
    have S2 : w2.heap.size = w.heap.size + 1 := by rw [s2, S1.out]; simp
    have c2 : (w2.alloc (.cells #[.string K, .string ⟨#[]⟩, .int .i64 0, .int .i64 0] 33)).heap[w.heap.size + 1]? = some (.cells #[.string K, .string ⟨#[]⟩, .int .i64 0, .int .i64 0] 33 (0, 0)) := by
      have := heap_alloc_new w2 (.cells #[.string K, .string ⟨#[]⟩, .int .i64 0, .int .i64 0] 33)
      rwa [S2] at this
    have z2' := hal (o := .cells #[.string K, .string ⟨#[]⟩, .int .i64 0, .int .i64 0] 33) z2
    have hr2' : RdIs (w2.alloc (.cells #[.string K, .string ⟨#[]⟩, .int .i64 0, .int .i64 0] 33)) rb _ := hal hr2
    have K2' := Lib.hid (K2.out.alloc (.cells #[.string K, .string ⟨#[]⟩, .int .i64 0, .int .i64 0] 33))
    clear K1 k2 S1 s2 z1 z2 hr1 hr2 K2 n2
    go_wp2_with fail
    with_reducible refine (n3 _ hr2').mono ?_
    rintro e w3 ⟨rfl, hr3, k3, s3⟩
    have z3 := k3.blk z2' (by omega)
    have c3 := k3.blk c2 (by omega)
    have K3 := Lib.hid (K2'.out.trans k3)
    clear K2' k3 s3 z2' c2 hr2' n3 S2
    go_wp2_with fail
    with_reducible refine (n4 _ hr3).mono ?_
    rintro e w4 ⟨rfl, hr4, k4, s4⟩
    have z4 := k4.blk z3 (by omega)
    have c4 := k4.blk c3 (by omega)
    have K4 := Lib.hid (K3.out.trans k4)
    clear K3 k4 s4 z3 c3 hr3 n4
    go_wp2_with fail
    with_reducible refine (n5 _ hr4).mono ?_
    rintro e w5 ⟨rfl, hr5, k5, s5⟩
    have z5 := k5.blk z4 (by omega)
    have c5 := k5.blk c4 (by omega)
    have K5 := Lib.hid (K4.out.trans k5)
    clear K4 k5 s5 z4 c4 hr4 n5
    have q1 := blk_cell c5
    have q2 := blk_free c5
    have q3 := lt_of_block c5
    have c6 := heap_setCell_same w5 (w.heap.size + 1) 1 _ _ (.string V) c5
    have c7 := blk_cell c6
    have z6 := (heap_setCell_other w5 ⟨w.heap.size + 1, 1, none⟩ _ (.string V) (show w.heap.size ≠ w.heap.size + 1 by omega)).trans z5
    have z7 := blk_cell z6
    have z8 := blk_free z6
    have z9 := lt_of_block z6
    have hr6 : RdIs (w5.setCell ⟨w.heap.size + 1, 1, none⟩ (.string V)) rb r := (heap_setCell_other w5 ⟨w.heap.size + 1, 1, none⟩ _ (.string V) (show rb ≠ w.heap.size + 1 by omega)).trans hr5
    have K6 := Lib.hid (K5.out.setCell (g := w.heap.size + 1) (j := 1) (.inr (by omega)) (.string V))
    have zf := blk_cell (set4_same z6 (.string K) (.string V) (.int .i64 0) (.int .i64 0))
    have hr7 : RdIs (set4 (w5.setCell ⟨w.heap.size + 1, 1, none⟩ (.string V)) w.heap.size (.string K) (.string V) (.int .i64 0) (.int .i64 0)) rb r := (set4_other _ (show rb ≠ w.heap.size by omega) _ _ _ _).trans hr6
    have K7 := Lib.hid ((((K6.out.setCell (g := w.heap.size) (j := 0) (.inr (by omega)) (.string K)).setCell (g := w.heap.size) (j := 1) (.inr (by omega)) (.string V)).setCell (g := w.heap.size) (j := 2) (.inr (by omega)) (.int .i64 0)).setCell (g := w.heap.size) (j := 3) (.inr (by omega)) (.int .i64 0))
    have R7 := Lib.hid hr7
    clear K5 K6 hr5 hr6 hr7 c5 c6 z5 z6 
    go_wp2_with fail
    refine bodyPost_ret (v := .agg #[.string K, .string V, .int .i64 (0 : Nat), .int .i64 (0 : Nat)]) (by simp [results, Tryz.results246, go_sem, zf]) rfl ⟨by simp, R7.out, K7.out⟩
  · have hnv : v = [] := by rcases hrest with h | h; exact absurd h.1 hb; exact h.2.2.1
    subst hnv
    have hb16 : b < 65536 := by omega
    have hz16 : z < 65536 := by omega
    have e : Cel.enc ⟨k, [], b, z⟩ ++ r = UInt8.ofNat k.length :: (k ++ (UInt8.ofNat 1 :: (num2 z ++ (num2 b ++ r)))) := by simp [Cel.enc, hb]
    rw [e] at hr hl
    have n1 := fun W h => rnum_one W rb k.length (k ++ (UInt8.ofNat 1 :: (num2 z ++ (num2 b ++ r)))) (by omega) h (by simp at hl ⊢; omega)
    have n2 := fun W h => rtake_app W rb k (UInt8.ofNat 1 :: (num2 z ++ (num2 b ++ r))) k.length rfl h (by simp at hl ⊢; omega)
    have n3 := fun W h => rnum_one W rb 1 (num2 z ++ (num2 b ++ r)) (by omega) h (by simp at hl ⊢; omega)
    have n4 := fun W h => rnum_two W rb z (num2 b ++ r) hz16 h (by simp at hl ⊢; omega)
    have n5 := fun W h => rnum_two W rb b r hb16 h (by simp at hl ⊢; omega)
    have Hr := Lib.hid hr
    clear hr e hl hlen hrest hc
    generalize k.length = kn at *
    have hstr0 : str ([] : List UInt8) = ⟨#[]⟩ := rfl
    rw [hstr0]
    clear hstr0
    generalize str k = K at *
    go_enter Tryz.func246, Tryz.ntmps246
    have z0 := heap_alloc_new w (.cells #[.string ⟨#[]⟩, .string ⟨#[]⟩, .int .i64 0, .int .i64 0] 33)
    have hrb : rb < w.heap.size := lt_of_block Hr.out
    have hr0 : RdIs (w.alloc (.cells #[.string ⟨#[]⟩, .string ⟨#[]⟩, .int .i64 0, .int .i64 0] 33)) rb _ := hal Hr.out
    have k0 : Keep (fun j => j = rb) w (w.alloc (.cells #[.string ⟨#[]⟩, .string ⟨#[]⟩, .int .i64 0, .int .i64 0] 33)) := (Keep.refl _ w).alloc _
    go_wp2_with fail
    with_reducible refine (n1 _ hr0).mono ?_
    rintro e w1 ⟨rfl, hr1, k1, s1⟩
    have z1 := k1.blk z0 (by omega)
    have K1 := Lib.hid (k0.trans k1)
    have S1 := Lib.hid s1
    clear k0 k1 s1 z0 hr0 n1
    go_wp2_with fail
    with_reducible refine (n2 _ hr1).mono ?_
    rintro e w2 ⟨rfl, hr2, k2, s2⟩
    have z2 := k2.blk z1 (by omega)
    have K2 := Lib.hid (K1.out.trans k2)
    have S2 : w2.heap.size = w.heap.size + 1 := by rw [s2, S1.out]; simp
    have c2 : (w2.alloc (.cells #[.string K, .string ⟨#[]⟩, .int .i64 0, .int .i64 0] 33)).heap[w.heap.size + 1]? = some (.cells #[.string K, .string ⟨#[]⟩, .int .i64 0, .int .i64 0] 33 (0, 0)) := by
      have := heap_alloc_new w2 (.cells #[.string K, .string ⟨#[]⟩, .int .i64 0, .int .i64 0] 33)
      rwa [S2] at this
    have z2' := hal (o := .cells #[.string K, .string ⟨#[]⟩, .int .i64 0, .int .i64 0] 33) z2
    have hr2' : RdIs (w2.alloc (.cells #[.string K, .string ⟨#[]⟩, .int .i64 0, .int .i64 0] 33)) rb _ := hal hr2
    have K2' := Lib.hid (K2.out.alloc (.cells #[.string K, .string ⟨#[]⟩, .int .i64 0, .int .i64 0] 33))
    clear K1 k2 S1 s2 z1 z2 hr1 hr2 K2 n2
    go_wp2_with fail
    with_reducible refine (n3 _ hr2').mono ?_
    rintro e w3 ⟨rfl, hr3, k3, s3⟩
    have z3 := k3.blk z2' (by omega)
    have c3 := k3.blk c2 (by omega)
    have K3 := Lib.hid (K2'.out.trans k3)
    clear K2' k3 s3 z2' c2 hr2' n3 S2
    go_wp2_with fail
    with_reducible refine (n4 _ hr3).mono ?_
    rintro e w4 ⟨rfl, hr4, k4, s4⟩
    have z4 := k4.blk z3 (by omega)
    have c4 := k4.blk c3 (by omega)
    have K4 := Lib.hid (K3.out.trans k4)
    clear K3 k4 s4 z3 c3 hr3 n4
    go_wp2_with fail
    with_reducible refine (n5 _ hr4).mono ?_
    rintro e w5 ⟨rfl, hr5, k5, s5⟩
    have z5 := k5.blk z4 (by omega)
    have c5 := k5.blk c4 (by omega)
    have K5 := Lib.hid (K4.out.trans k5)
    clear K4 k5 s5 z4 c4 hr4 n5
    have q1 := blk_cell c5
    have q2 := blk_free c5
    have q3 := lt_of_block c5
    have c6 := heap_setCell_same w5 (w.heap.size + 1) 3 _ _ (.int .i64 z) c5
    have c7 := blk_cell c6
    have c8 := blk_free c6
    have c6' := heap_setCell_same _ (w.heap.size + 1) 2 _ _ (.int .i64 b) c6
    have c9 := blk_cell c6'
    obtain ⟨W6, hW6⟩ : ∃ W6, W6 = (w5.setCell ⟨w.heap.size + 1, 3, none⟩ (.int .i64 z)).setCell ⟨w.heap.size + 1, 2, none⟩ (.int .i64 b) := ⟨_, rfl⟩
    have z6 : W6.heap[w.heap.size]? = _ := hW6 ▸ ((heap_setCell_other _ ⟨w.heap.size + 1, 2, none⟩ _ (.int .i64 b) (show w.heap.size ≠ w.heap.size + 1 by omega)).trans ((heap_setCell_other w5 ⟨w.heap.size + 1, 3, none⟩ _ (.int .i64 z) (show w.heap.size ≠ w.heap.size + 1 by omega)).trans z5))
    have z7 := blk_cell z6
    have z8 := blk_free z6
    have z9 := lt_of_block z6
    have hr6 : RdIs W6 rb r := hW6 ▸ ((heap_setCell_other _ ⟨w.heap.size + 1, 2, none⟩ _ (.int .i64 b) (show rb ≠ w.heap.size + 1 by omega)).trans ((heap_setCell_other w5 ⟨w.heap.size + 1, 3, none⟩ _ (.int .i64 z) (show rb ≠ w.heap.size + 1 by omega)).trans hr5))
    have K6 : Hid (Keep (fun j => j = rb) w W6) := Lib.hid (hW6 ▸ ((K5.out.setCell (g := w.heap.size + 1) (j := 3) (.inr (by omega)) (.int .i64 z)).setCell (g := w.heap.size + 1) (j := 2) (.inr (by omega)) (.int .i64 b)))
    have zf := blk_cell (set4_same z6 (.string K) (.string ⟨#[]⟩) (.int .i64 b) (.int .i64 z))
    have hr7 : RdIs (set4 W6 w.heap.size (.string K) (.string ⟨#[]⟩) (.int .i64 b) (.int .i64 z)) rb r := (set4_other _ (show rb ≠ w.heap.size by omega) _ _ _ _).trans hr6
    have K7 := Lib.hid ((((K6.out.setCell (g := w.heap.size) (j := 0) (.inr (by omega)) (.string K)).setCell (g := w.heap.size) (j := 1) (.inr (by omega)) (.string ⟨#[]⟩)).setCell (g := w.heap.size) (j := 2) (.inr (by omega)) (.int .i64 b)).setCell (g := w.heap.size) (j := 3) (.inr (by omega)) (.int .i64 z))
    have R7 := Lib.hid hr7
    rw [hW6] at zf R7 K7 z7 z8 z9
    clear K5 K6 hr5 hr6 hr7 c5 c6 c6' z5 z6 hW6
    go_wp2_with fail
    refine bodyPost_ret (v := .agg #[.string K, .string ⟨#[]⟩, .int .i64 (b : Nat), .int .i64 (z : Nat)]) (by simp [results, Tryz.results246, go_sem, zf]) rfl ⟨by simp, R7.out, K7.out⟩
theorem info_cell : (Tryz.prog.info? 33).map (fun i => (i.zero, i.size, i.bytes)) = some (some (.agg #[.string ⟨#[]⟩, .string ⟨#[]⟩, .int .i64 0, .int .i64 0]), 4, 48) := by kernel_rfl
theorem encs_drop (l : List Cel) (j : Nat) (hj : j < l.length) (r : List UInt8) : encs (l.drop j) ++ r = (l[j]).enc ++ (encs (l.drop (j + 1)) ++ r) := by
  have e : encs (l.drop j) = (l[j]).enc ++ encs (l.drop (j + 1)) := by
    conv => lhs; rw [List.drop_eq_getElem_cons hj]
    exact List.flatMap_cons
  rw [e, List.append_assoc]
theorem flatC_step (l : List Cel) (j : Nat) (hj : j < l.length) : flatC (l.take (j + 1)) = flatC (l.take j) ++ (l[j]).cells := by
  rw [List.take_succ_eq_append_getElem hj, flatC_append]; simp [flatC]
set_option maxRecDepth 100000 in
set_option maxHeartbeats 4000000 in
theorem cget_ok (l : List Cel) (hf : Fits l) (w : World) :
    Calls Tryz.prog 190 #[.string (str (bodyF l))] w fun e w' => ∃ A cap, e = .returned (.tuple #[.slice A l.length cap, .bool true]) ∧ w'.ownsRow w.heap.size 33 4 (.slice A l.length cap) l.length (flatC l) ∧ Below w.heap.size w w' := by
  have hlen := hf.len
  have hroom := hf.room
  have hbl := bodyF_len hf
  obtain ⟨i0, hi, hz0, hz1, hz2⟩ := info_parts info_cell
  have hputs := fun A cap W (hA : Cels W A l) => putAll_any A l.length cap l W rfl (by omega) hA hf.ok hf.sorted
  unfold putRes at hputs
  rw [if_pos hroom] at hputs
  have hr0 : RdIs (w.alloc (.cells #[.string (str (bodyF l)), .bool false] 334)) w.heap.size (bodyF l) := heap_alloc_new w _
  have hb0 := below_al (Below.refl _ w) (.cells #[.string (str (bodyF l)), .bool false] 334)
  have hrn := fun W h => rnum_one W w.heap.size l.length (encs l ++ zs (239 - szs l)) (by omega) h (by simp [encs_len, zs_len]; omega)
  have hrc := fun j (hj : j < l.length) W (h : RdIs W w.heap.size ((l[j]).enc ++ (encs (l.drop (j + 1)) ++ zs (239 - szs l)))) => rcell_ok W w.heap.size l[j] (encs (l.drop (j + 1)) ++ zs (239 - szs l)) (hf.ok _ (List.getElem_mem hj)) h (by
    rw [← encs_drop l j hj, List.length_append, encs_len, zs_len]
    have := szs_append (l.take j) (l.drop j)
    rw [List.take_append_drop] at this
    omega)
  have HE := Lib.hid (fun j (hj : j < l.length) => encs_drop l j hj (zs (239 - szs l)))
  have HF := Lib.hid (fun j (hj : j < l.length) => flatC_step l j hj)
  have Hrc := Lib.hid hrc
  have Hb0 := Lib.hid hb0
  have hs1 : (w.alloc (.cells #[.string (str (bodyF l)), .bool false] 334)).heap.size = w.heap.size + 1 := by simp
  have Hs1 := Lib.hid hs1
  have Hputs := Lib.hid hputs
  obtain ⟨S, hS⟩ : ∃ S, S = str (bodyF l) := ⟨_, rfl⟩
  rw [← hS] at hr0 Hb0 Hs1 Hputs ⊢
  clear hrc hf hroom hbl hputs hS hb0 hs1
  go_enter Tryz.func190, Tryz.ntmps190
  go_wp2_with fail
  with_reducible refine (hrn _ hr0).mono ?_
  rintro e w1 ⟨rfl, hr1, k1, s1⟩
  have b1 : Below w.heap.size w w1 := Hb0.out.trans (k1.to_below (by rw [Hs1.out]; omega) (fun i hi => by omega))
  have S1 : w1.heap.size = w.heap.size + 1 := by rw [s1, Hs1.out]
  have HB1 := Lib.hid b1
  have HS1 := Lib.hid S1
  have HR1 : Hid (RdIs w1 w.heap.size (encs (l.drop 0) ++ zs (239 - szs l))) := Lib.hid hr1
  have HO1 : Hid (w1.ownsRow (w.heap.size + 1) 33 4 (.slice none 0 0) 0 (flatC (l.take 0))) := Lib.hid ⟨rfl, .inl ⟨rfl, rfl⟩⟩
  clear k1 s1 hr0 b1 S1 hr1 hrn Hs1
  go_wp2_with fail
  go_loopw [5, 13] (fun o i wr => ∃ (j : Nat) (ov : Value), o = ov ∧ i = .int .i64 j ∧ j ≤ l.length ∧ Hid (wr.ownsRow (w.heap.size + 1) 33 4 ov j (flatC (l.take j))) ∧ Hid (RdIs wr w.heap.size (encs (l.drop j) ++ zs (239 - szs l))) ∧ Hid (Below w.heap.size w wr)) (fun _ i _ => l.length - (intOf i).toNat)
  case atStart => exact ⟨0, _, rfl, rfl, Nat.zero_le _, HO1, HR1, HB1⟩
  case round =>
    clear HO1 HR1 HB1
    obtain ⟨j, ov, rfl, rfl, hj, ho, hr, hb⟩ := hrel
    by_cases hlt : j < l.length
    · have d1 : decide ((j : Int) < (l.length : Int)) = true := by simpa using hlt
      have i1 : IntKind.i64.wrap ((j : Int) + 1) = (j : Int) + 1 := IntWalk.i64_in _ (by omega)
      have hrj := hr.out
      rw [HE.out j hlt] at hrj
      have hcell := Hrc.out j hlt wr hrj
      have hst := HF.out j hlt
      obtain ⟨x, hx⟩ : ∃ x, x = l[j] := ⟨_, rfl⟩
      rw [← hx] at hcell hst
      obtain ⟨k, v, b, z⟩ := x
      simp only [Cel.v, Cel.cells] at hcell hst
      have Hst := Lib.hid hst
      clear hrj hst hx
      go_wp2_with fail
      with_reducible refine hcell.mono ?_
      rintro e w2 ⟨rfl, hr2, k2⟩
      have o2 := k2.row ho.out (fun g hg => by have := row_ge ho.out g hg; omega)
      have b2 := hb.out.trans (k2.to_below hb.out.size (fun i hi => by omega))
      have R2 := Lib.hid hr2
      have B2 := Lib.hid b2
      have hlt1 : w.heap.size < w2.heap.size := Nat.lt_of_lt_of_le (lt_of_block hr.out) k2.size
      clear hr2 k2 b2 hr hb ho hcell
      go_wp2_with (at_builtin; refine wpList_append_own _ rfl (.tmp 15) (.tmp 18) _ rfl (w.heap.size + 1) 33 i0 (.agg #[.string ⟨#[]⟩, .string ⟨#[]⟩, .int .i64 0, .int .i64 0]) 4 48 Tryz.underlying142 hi hz0 hz1 hz2 rfl (by decide) _ j (flatC (l.take j)) rfl (o2.alloc _) ⟨w2.heap.size, 0, none⟩ 1 1 [.string (str k), .string (str v), .int .i64 b, .int .i64 z] rfl rfl (cells_new _ _ (by simp) _ _) (by intro u hu; simp at hu; rcases hu with rfl | rfl | rfl | rfl <;> rfl) (by unfold maxLen; omega) (by omega) (by simp; omega) ?_; intro v' w4 hown4 hgrow _)
      refine ⟨⟨j + 1, _, rfl, by go_num, by omega, Lib.hid (by rw [Hst.out]; exact hown4), Lib.hid (keep_grown o2 hgrow (Nat.lt_succ_self _) (hal R2.out)), Lib.hid (below_grown (b := w4) (B2.out.alloc (by omega) (.cells #[.string (str k), .string (str v), .int .i64 b, .int .i64 z] 33)) (by simp; omega) (row_mono o2 (Nat.le_succ _)) hgrow)⟩, ?_⟩
      clear i1
      simp [intOf]; omega
    · obtain rfl : j = l.length := by omega
      rw [List.take_length] at ho
      obtain ⟨A, cp, rfl⟩ := own_slice ho.out
      have hput := Hputs.out A cp wr (Cels.of_own ho.out)
      have hrr := hr.out
      have c1 := blk_cell hrr
      have z1 := lt_of_block hrr
      go_wp2_with fail
      with_reducible refine hput.mono ?_
      rintro e w2 ⟨rfl, hb2⟩
      have hr2 := blk_keep hrr hb2
      have c2 := blk_cell hr2
      have z2 := lt_of_block hr2
      have B2 := Lib.hid (below_base hb.out hb.out.size hb2)
      have O2 := Lib.hid (row_mono (own_below ho.out hb2) (Nat.le_succ _))
      clear hput hrr hr2 hb2 c1 z1 hr hb ho
      go_wp2_with fail
      go_ret2
      exact ⟨A, cp, rfl, O2.out, B2.out⟩
end Go.Proofs.YtijhamllnnilbaaGreatDoor.Ha
