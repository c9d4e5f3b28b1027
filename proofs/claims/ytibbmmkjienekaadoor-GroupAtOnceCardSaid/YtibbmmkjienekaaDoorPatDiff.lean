/- The contracts of package patch's right, Diff, Whole. -/
import Derived.Test.YtibbmmkjienekaaDoorPatPure
namespace Go.Proofs.YtibbmmkjienekaaDoor.Gr
open Go.RowKit Go.Proofs.YtibbmmkjienekaaDoor.Mem Go.Proofs.YtibbmmkjienekaaDoor.Pg Go.Proofs.YtibbmmkjienekaaDoor.Kp
set_option linter.unusedSimpArgs false
set_option linter.unusedVariables false

set_option maxRecDepth 100000 in
theorem right_any (i : Int) (s : ByteArray) (w : World) (h0 : 0 ≤ i) (h1 : i < 64) :
    Calls Tryd.prog 40 #[.int .i64 i, .string s] w fun e w' => e = .returned (.bool (decide (s.size = 256))) ∧ w' = w := by
  have d0 : decide (0 ≤ i) = true := by simpa using h0
  have d1 : decide (i < 64) = true := by simpa using h1
  by_cases h : s.size = 256
  · have d2 : ((s.size : Int) == 256) = true := by simp; omega
    rw [decide_eq_true h]
    clear h
    go_enter Tryd.func40, Tryd.ntmps40
    go_wp2_with fail
    go_ret
    exact ⟨rfl, rfl⟩
  · have d2 : ((s.size : Int) == 256) = false := by simp; omega
    rw [decide_eq_false h]
    clear h
    go_enter Tryd.func40, Tryd.ntmps40
    go_wp2_with fail
    go_ret
    exact ⟨rfl, rfl⟩
theorem set3_same {w : World} {g : Nat} {a b c : Value} {t : TypeId} (h : w.heap[g]? = some (.cells #[a, b, c] t (0, 0))) (a' b' c' : Value) :
    (((w.setCell ⟨g, 0, none⟩ a').setCell ⟨g, 1, none⟩ b').setCell ⟨g, 2, none⟩ c').heap[g]? = some (.cells #[a', b', c'] t (0, 0)) := by
  have h1 := heap_setCell_same w g 0 _ t a' h
  have h2 := heap_setCell_same _ g 1 _ t b' h1
  exact heap_setCell_same _ g 2 _ t c' h2
abbrev zqv : Value := .agg #[.int .i64 0, .int .i64 0, .string ⟨#[]⟩]
abbrev zqo : Obj := .cells #[.int .i64 0, .int .i64 0, .string ⟨#[]⟩] 57

set_option maxRecDepth 100000 in
set_option maxHeartbeats 2000000 in
theorem diff_no (i : Int) (o b : List UInt8) (w : World) (h0 : 0 ≤ i) (h1 : i < 64) (h : o = b ∨ o.length ≠ 256 ∨ b.length ≠ 256) :
    Calls Tryd.prog 27 #[.int .i64 i, .string (str o), .string (str b)] w fun e w' => e = .returned (.tuple #[zqv, .bool false]) ∧ Below w.heap.size w w' := by
  have hr := fun s W => right_any i s W h0 h1
  have hc := blk_cell (heap_alloc_new w zqo)
  have hb := below_al (Below.refl _ w) zqo
  by_cases ho : o.length = 256
  · have hro := fun W => hr (str o) W
    rw [decide_eq_true (show (str o).size = 256 by rw [str_size]; exact ho)] at hro
    by_cases hb' : b.length = 256
    · have hrb := fun W => hr (str b) W
      rw [decide_eq_true (show (str b).size = 256 by rw [str_size]; exact hb')] at hrb
      obtain rfl : o = b := by
        rcases h with h | h | h
        · exact h
        · exact absurd ho h
        · exact absurd hb' h
      have hee : ((str o).toList == (str o).toList) = true := by simp
      generalize str o = S at *
      clear h hr ho hb'
      go_enter Tryd.func27, Tryd.ntmps27
      go_wp2_with fail
      with_reducible refine (hro _).mono ?_
      rintro e w1 ⟨rfl, rfl⟩
      go_wp2_with fail
      with_reducible refine (hrb _).mono ?_
      rintro e w1 ⟨rfl, rfl⟩
      go_wp2_with fail
      refine bodyPost_ret (v := .tuple #[zqv, .bool false]) (by simp [results, Tryd.results27, go_sem, hc]) rfl ⟨rfl, ?_⟩
      exact hb
    · have hrb := fun W => hr (str b) W
      rw [decide_eq_false (show ¬ (str b).size = 256 by rw [str_size]; exact hb')] at hrb
      generalize str o = S at *
      generalize str b = T at *
      clear h hr ho hb'
      go_enter Tryd.func27, Tryd.ntmps27
      go_wp2_with fail
      with_reducible refine (hro _).mono ?_
      rintro e w1 ⟨rfl, rfl⟩
      go_wp2_with fail
      with_reducible refine (hrb _).mono ?_
      rintro e w1 ⟨rfl, rfl⟩
      go_wp2_with fail
      refine bodyPost_ret (v := .tuple #[zqv, .bool false]) (by simp [results, Tryd.results27, go_sem, hc]) rfl ⟨rfl, ?_⟩
      exact hb
  · have hro := fun W => hr (str o) W
    rw [decide_eq_false (show ¬ (str o).size = 256 by rw [str_size]; exact ho)] at hro
    generalize str o = S at *
    generalize str b = T at *
    clear h hr ho
    go_enter Tryd.func27, Tryd.ntmps27
    go_wp2_with fail
    with_reducible refine (hro _).mono ?_
    rintro e w1 ⟨rfl, rfl⟩
    go_wp2_with fail
    refine bodyPost_ret (v := .tuple #[zqv, .bool false]) (by simp [results, Tryd.results27, go_sem, hc]) rfl ⟨rfl, ?_⟩
    exact hb

set_option maxRecDepth 100000 in
set_option maxHeartbeats 4000000 in
theorem diff_yes (i : Int) (o b : List UInt8) (w : World) (h0 : 0 ≤ i) (h1 : i < 64) (ho : o.length = 256) (hb' : b.length = 256) (h : o ≠ b) :
    Calls Tryd.prog 27 #[.int .i64 i, .string (str o), .string (str b)] w fun e w' => ∃ f t, IsDiff o b f t ∧ e = .returned (.tuple #[Pat.v ⟨i, f, (b.take t).drop f⟩, .bool true]) ∧ Below w.heap.size w w' := by
  have hro := fun W => right_any i (str o) W h0 h1
  have hrb := fun W => right_any i (str b) W h0 h1
  rw [decide_eq_true (show (str o).size = 256 by rw [str_size]; exact ho)] at hro
  rw [decide_eq_true (show (str b).size = 256 by rw [str_size]; exact hb')] at hrb
  have hk := heap_alloc_new w zqo
  have hc := blk_cell hk
  have hf := blk_free hk
  have hbl := below_al (Below.refl _ w) zqo
  obtain ⟨f, hf256, hpre, hat⟩ := first_diff ho hb' h
  have hbo := Sp.str_bt o
  have hbb := Sp.str_bt b
  have hSs : (str o).size = 256 := by rw [str_size]; exact ho
  have hTs : (str b).size = 256 := by rw [str_size]; exact hb'
  have hne : ((str o).toList == (str b).toList) = false := (Lib.bytes_beq_false_iff _ _).2 (fun e => h (by
    have e := congrArg (fun t : ByteArray => t.data.toList) e
    exact e))
  have hcut := cut_cut b
  obtain ⟨S, hS⟩ : ∃ S, S = str o := ⟨_, rfl⟩
  obtain ⟨T, hT⟩ : ∃ T, T = str b := ⟨_, rfl⟩
  rw [← hS] at hro hbo hSs hne ⊢
  rw [← hT] at hrb hbb hTs hne hcut ⊢
  have Hbo := Lib.hid hbo
  have Hbb := Lib.hid hbb
  have Hpre := Lib.hid hpre
  have Hat := Lib.hid hat
  have Hcut := Lib.hid hcut
  clear hbo hbb hpre hat hS hT h ho hb' hcut
  go_enter Tryd.func27, Tryd.ntmps27
  go_wp2_with fail
  with_reducible refine (hro _).mono ?_
  rintro e w1 ⟨rfl, rfl⟩
  go_wp2_with fail
  with_reducible refine (hrb _).mono ?_
  rintro e w1 ⟨rfl, rfl⟩
  go_wp2_with fail
  clear hro hrb hne
  go_loopw [8] (fun u wr => ∃ j : Nat, u = .int .i64 j ∧ j ≤ f ∧ Below w.heap.size w wr ∧ wr.heap[w.heap.size]? = some (.cells #[.int .i64 0, .int .i64 0, .string ⟨#[]⟩] 57 (0, 0))) (fun u _ => f - (intOf u).toNat)
  case atStart => exact ⟨0, rfl, Nat.zero_le _, hbl, hk⟩
  case round =>
    clear hk hc hf hbl
    obtain ⟨j, rfl, hj, hbl, hk⟩ := hrel
    have hjS : j < S.size := by omega
    have hjT : j < T.size := by omega
    have hjS' : (j : Int) < (S.size : Int) := by omega
    have hjT' : (j : Int) < (T.size : Int) := by omega
    have b1 := Hbo.out j hjS
    have b2 := Hbb.out j hjT
    have i1 : IntKind.i64.wrap ((j : Int) + 1) = (j : Int) + 1 := IntWalk.i64_in _ (by omega)
    by_cases hlt : j < f
    · have e : (Sp.bt o j == Sp.bt b j) = true := by rw [Hpre.out j hlt]; simp
      have e' : decide (Sp.bt o j = Sp.bt b j) = true := by rw [Hpre.out j hlt]; simp
      go_wp2_with fail
      go_region
      go_wp2_with fail
      go_roundw
      case rel => exact ⟨j + 1, by go_num, by omega, below_dr hbl, hk⟩
      case measure => clear i1; simp [intOf]; omega
    · obtain rfl : j = f := by omega
      have e : (Sp.bt o j == Sp.bt b j) = false := by simpa using Hat.out
      have e' : decide (Sp.bt o j = Sp.bt b j) = false := by simpa using Hat.out
      clear i1
      go_wp2_with fail
      go_region
      go_wp2_with fail
      go_loopw [9] (fun u wx => ∃ t : Nat, u = .int .i64 ((t : Int) + 1) ∧ j ≤ t ∧ t + 1 ≤ 256 ∧ Hid (∀ i, t + 1 ≤ i → i < 256 → Sp.bt o i = Sp.bt b i) ∧ Below w.heap.size w wx ∧ wx.heap[w.heap.size]? = some (.cells #[.int .i64 0, .int .i64 0, .string ⟨#[]⟩] 57 (0, 0))) (fun u _ => (intOf u).toNat)
      case atStart => exact ⟨255, rfl, by omega, by omega, Lib.hid (fun i h1 h2 => absurd h1 (by omega)), below_dr hbl, hk⟩
      case round =>
        clear hbl hk e e' b1 b2 hjS hjT hjS' hjT'
        obtain ⟨t, rfl, hjt, ht, hpost, hbl, hk⟩ := hrel
        have i1 : IntKind.i64.wrap ((t : Int) + 1 - 1) = (t : Int) := by rw [IntWalk.i64_in _ (by omega)]; omega
        have i2 : ((t : Int) + 1 - 1) = (t : Int) := by omega
        have htS : t < S.size := by omega
        have htT : t < T.size := by omega
        have htS' : (t : Int) < (S.size : Int) := by omega
        have htT' : (t : Int) < (T.size : Int) := by omega
        have b1 := Hbo.out t htS
        have b2 := Hbb.out t htT
        by_cases hEq : Sp.bt o t = Sp.bt b t
        · have e : (Sp.bt o t == Sp.bt b t) = true := by rw [hEq]; simp
          have e' : decide (Sp.bt o t = Sp.bt b t) = true := by rw [hEq]; simp
          have hjt2 : j < t := by
            rcases Nat.lt_or_ge j t with h | h
            · exact h
            · obtain rfl : t = j := by omega
              exact absurd hEq Hat.out
          have hp' : Hid (∀ i, t ≤ i → i < 256 → Sp.bt o i = Sp.bt b i) := Lib.hid (fun i h1 h2 => by
            rcases Nat.lt_or_ge t i with h | h
            · exact hpost.out i (by omega) h2
            · obtain rfl : i = t := by omega
              exact hEq)
          obtain ⟨t', rfl⟩ : ∃ t', t = t' + 1 := ⟨t - 1, by omega⟩
          have hc : ((t' + 1 : Nat) : Int) = (t' : Int) + 1 := by omega
          clear hEq
          go_wp2_with fail
          go_region
          go_wp2_with fail
          go_roundw
          case rel => exact ⟨t', rfl, by omega, by omega, hp', below_dr hbl, hk⟩
          case measure => clear i1; simp [intOf]; omega
        · have e : (Sp.bt o t == Sp.bt b t) = false := by simpa using hEq
          have e' : decide (Sp.bt o t = Sp.bt b t) = false := by simpa using hEq
          have hd : Hid (IsDiff o b j (t + 1)) := Lib.hid ⟨by omega, ht, Hpre.out, Hat.out, fun i h1 h2 => hpost.out i h1 h2, hEq⟩
          have hc := blk_cell hk
          have hf := blk_free hk
          have hz := lt_of_block hk
          have x1 : (j : Int) ≤ (t : Int) + 1 := by omega
          have x2 : (t : Int) + 1 ≤ (T.size : Int) := by omega
          have x3 : (0 : Int) ≤ (j : Int) := by omega
          have x4 : (0 : Int) ≤ (t : Int) + 1 := by omega
          have x5 : j ≤ t + 1 := by omega
          obtain ⟨q, hq⟩ : ∃ q : Nat, q = t + 1 := ⟨_, rfl⟩
          have hqi : (t : Int) + 1 = (q : Int) := by omega
          rw [hqi] at i1 x1 x2 x4 ⊢
          rw [← hq] at x5 hd
          have x2' : q ≤ 256 := by omega
          have x2'' : (q : Int) ≤ 256 := by omega
          have x1' : j ≤ q := x5
          have x6 : ((q : Int)).toNat = q := Int.toNat_natCast q
          have hcq := Hcut.out j q
          have Hq := Lib.hid hq
          clear hEq i2 hqi hq
          go_wp2_with fail
          go_region
          go_wp2_with fail
          refine bodyPost_ret (v := .tuple #[.agg #[.int .i64 i, .int .i64 j, .string (str ((b.take q).drop j))], .bool true]) (by simp [results, Tryd.results27, go_sem, hc]) rfl ?_
          refine ⟨j, q, hd.out, ?_, ?_⟩
          · rfl
          · exact below_dr (below_set (below_set (below_set hbl (Nat.le_refl _)) (Nat.le_refl _)) (Nat.le_refl _))

set_option maxRecDepth 100000 in
theorem whole_yes (i : Int) (b : List UInt8) (w : World) (h0 : 0 ≤ i) (h1 : i < 64) (hb : b.length = 256) :
    Calls Tryd.prog 28 #[.int .i64 i, .string (str b)] w fun e w' => e = .returned (.tuple #[Pat.v ⟨i, 0, b⟩, .bool true]) ∧ Below w.heap.size w w' := by
  have hr := fun W => right_any i (str b) W h0 h1
  rw [decide_eq_true (show (str b).size = 256 by rw [str_size]; exact hb)] at hr
  have hk := heap_alloc_new w zqo
  have hc := blk_cell hk
  have hf := blk_free hk
  have hbl := below_al (Below.refl _ w) zqo
  simp only [Pat.v]
  obtain ⟨T, hT⟩ : ∃ T, T = str b := ⟨_, rfl⟩
  rw [← hT] at hr ⊢
  clear hT hb
  go_enter Tryd.func28, Tryd.ntmps28
  go_wp2_with fail
  with_reducible refine (hr _).mono ?_
  rintro e w1 ⟨rfl, rfl⟩
  go_wp2_with fail
  have c5 := blk_cell (set3_same hk (.int .i64 i) (.int .i64 0) (.string T))
  refine bodyPost_ret (v := .tuple #[.agg #[.int .i64 i, .int .i64 0, .string T], .bool true]) (by simp [results, Tryd.results28, go_sem]) rfl ⟨rfl, ?_⟩
  first | exact below_al (Below.refl _ _) _ | exact below_set (below_set (below_set hbl (Nat.le_refl _)) (Nat.le_refl _)) (Nat.le_refl _)
end Go.Proofs.YtibbmmkjienekaaDoor.Gr
