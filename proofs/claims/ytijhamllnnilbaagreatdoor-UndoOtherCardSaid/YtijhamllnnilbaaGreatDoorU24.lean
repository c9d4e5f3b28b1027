/- Lemmas of the claim, in their order:
- The plain laws of a value in pages (as blob/XBlobBack, without its walk).
- Patches: what two pages' bytes differ in. No program in sight.
- The contracts of package patch's right, Diff, Whole.
-/
import Derived.Test.YtijhamllnnilbaaGreatDoorU23
import Derived.Test.YtijhamllnnilbaaGreatDoorU13
import Derived.Test.YtijhamllnnilbaaGreatDoorU03
set_option linter.unusedVariables false
set_option linter.unusedSimpArgs false
namespace Go.Proofs.YtijhamllnnilbaaGreatDoor.Bl
open Go.RowKit Go.Proofs.YtijhamllnnilbaaGreatDoor.Mem Go.Proofs.YtijhamllnnilbaaGreatDoor.Pg
/-- The pages of a value. -/
def putPg (l : List UInt8) (at' : List Int) (n : Nat) : List Pg := (List.range n).map fun i => ⟨5, 0, nextOf at' i, body l i⟩
theorem putPg_get {l : List UInt8} {at' : List Int} {n i : Nat} {p : Pg} (h : (putPg l at' n)[i]? = some p) : i < n ∧ p = ⟨5, 0, nextOf at' i, body l i⟩ := by
  have hi : i < n := by have := (List.getElem?_eq_some_iff.1 h).1; simpa [putPg] using this
  rw [putPg, List.getElem?_map, List.getElem?_range hi] at h
  simp at h
  exact ⟨hi, h.symm⟩
theorem putPg_at (l : List UInt8) (at' : List Int) (n i : Nat) (h : i < n) : (putPg l at' n)[i]? = some ⟨5, 0, nextOf at' i, body l i⟩ := by simp [putPg, h]
theorem rows_get (l : List UInt8) (at' : List Int) : ∀ n i j, i < n → j < 4 → (rows l at' n)[i * 4 + j]? = (pgRow l at' i)[j]? := by
  intro n
  induction n with
  | zero => intro i j h; omega
  | succ n ih =>
    intro i j h hj
    rw [rows]
    rcases Nat.lt_or_eq_of_le (Nat.le_of_lt_succ h) with h' | rfl
    · rw [List.getElem?_append_left (by rw [rows_length]; omega)]
      exact ih i j h' hj
    · rw [List.getElem?_append_right (by rw [rows_length]; omega), rows_length, Nat.add_sub_cancel_left]
theorem pgs_own {w : World} {base g cap n : Nat} {l : List UInt8} {at' : List Int} (h : w.ownsRow base 113 4 (.slice (some ⟨g, 0, none⟩) n cap) n (rows l at' n)) (hn : n ≤ 1000) (hg : g < w.heap.size) : Pgs w (some ⟨g, 0, none⟩) n (putPg l at' n) := by
  refine ⟨by simp [putPg], hn, fun _ => ⟨g, 0, rfl, hg, fun i p hp j u hu => ?_⟩⟩
  obtain ⟨hi, rfl⟩ := putPg_get hp
  have hj : j < 4 := by have := (List.getElem?_eq_some_iff.1 hu).1; simpa [Pg.cells] using this
  rw [Nat.zero_add]
  exact own_at h _ u (by rw [rows_get l at' n i j hi hj]; exact hu)
theorem body_len (l : List UInt8) (i : Nat) : (body l i).length = 240 := by
  have := part_len l i
  rw [body, List.length_append, zs, List.length_replicate]
  omega
theorem nAt_part (l : List UInt8) (i : Nat) : nAt l.length i = (part l i).length := by
  rw [part_len, nAt]
  omega
theorem body_take (l : List UInt8) (i : Nat) : (body l i).take (nAt l.length i) = part l i := by rw [nAt_part, body, List.take_left]
theorem body_drop (l : List UInt8) (i : Nat) : ∀ c ∈ (body l i).drop (nAt l.length i), c = 0 := by
  rw [nAt_part, body, List.drop_left]
  intro c hc
  exact (List.mem_replicate.1 hc).2
theorem getOk_put {l : List UInt8} {at' : List Int} (h : PutOk l at') : GetOk l.length (putPg l at' at'.length) := by
  have hl : (putPg l at' at'.length).length = at'.length := by simp [putPg]
  refine ⟨by rw [hl]; exact h.1, by rw [hl, pgI_nat]; exact h.2.1, fun i p hp => ?_⟩
  obtain ⟨hi, rfl⟩ := putPg_get hp
  refine ⟨rfl, ?_, body_len l i, body_drop l i⟩
  rw [hl]
  show nextOf at' i = 0 ↔ _
  unfold nextOf
  by_cases h1 : i + 1 < at'.length
  · rw [if_pos h1]
    have := (h.2.2 (i + 1) h1).1
    omega
  · rw [if_neg h1]
    omega
theorem got_put (l : List UInt8) (at' : List Int) (n : Nat) : ∀ j, j ≤ n → got l.length (putPg l at' n) j = l.take (200 * j) := by
  intro j
  induction j with
  | zero => intro _; rfl
  | succ j ih =>
    intro h
    rw [got, ih (by omega), putPg_at l at' n j (by omega)]
    show _ ++ (body l j).take _ = _
    rw [body_take, part, show 200 * (j + 1) = 200 * j + 200 from by omega, List.take_add]
theorem got_put_all {l : List UInt8} {at' : List Int} (h : PutOk l at') : got l.length (putPg l at' at'.length) at'.length = l := by
  rw [got_put _ _ _ _ (Nat.le_refl _), List.take_of_length_le]
  have h1 := h.1
  have h2 := h.2.1
  unfold pgN at h2
  split at h2 <;> omega
end Go.Proofs.YtijhamllnnilbaaGreatDoor.Bl
namespace Go.Proofs.YtijhamllnnilbaaGreatDoor.Gr
open Go.RowKit Go.Proofs.YtijhamllnnilbaaGreatDoor.Mem Go.Proofs.YtijhamllnnilbaaGreatDoor.Pg Go.Proofs.YtijhamllnnilbaaGreatDoor.Kp

/-- From f to t two lists of bytes differ, and nowhere else. -/
structure IsDiff (o b : List UInt8) (f t : Nat) : Prop where
  lt : f < t
  le : t ≤ 256
  pre : ∀ j, j < f → Sp.bt o j = Sp.bt b j
  at0 : Sp.bt o f ≠ Sp.bt b f
  post : ∀ j, t ≤ j → j < 256 → Sp.bt o j = Sp.bt b j
  at1 : Sp.bt o (t - 1) ≠ Sp.bt b (t - 1)
theorem IsDiff.one {o b : List UInt8} {f t f' t' : Nat} (h : IsDiff o b f t) (k : IsDiff o b f' t') : f = f' ∧ t = t' := by
  constructor
  · rcases Nat.lt_trichotomy f f' with e | e | e
    · exact absurd (k.pre f e) h.at0
    · exact e
    · exact absurd (h.pre f' e) k.at0
  · have h1 := h.lt
    have h2 := h.le
    have k1 := k.lt
    have k2 := k.le
    rcases Nat.lt_trichotomy t t' with e | e | e
    · exact absurd (h.post (t' - 1) (by omega) (by omega)) k.at1
    · exact e
    · exact absurd (k.post (t - 1) (by omega) (by omega)) h.at1
/-- A patch: of which page, from where, its bytes. -/
structure Pat where
  p : Int
  a : Nat
  b : List UInt8
def Pat.v (q : Pat) : Value := .agg #[.int .i64 q.p, .int .i64 q.a, .string (str q.b)]
def Pat.cells (q : Pat) : List Value := [.int .i64 q.p, .int .i64 q.a, .string (str q.b)]
def flatP (l : List Pat) : List Value := l.flatMap Pat.cells
theorem flatP_append (l m : List Pat) : flatP (l ++ m) = flatP l ++ flatP m := by simp [flatP]
/-- The patch of a page that was o and is b. -/
noncomputable def diffP (i : Int) (o b : List UInt8) : Option Pat := open Classical in if h : o.length = 256 ∧ b.length = 256 ∧ ∃ f t, IsDiff o b f t then some ⟨i, h.2.2.choose, (b.take h.2.2.choose_spec.choose).drop h.2.2.choose⟩ else none
theorem diffP_some {i : Int} {o b : List UInt8} {f t : Nat} (ho : o.length = 256) (hb : b.length = 256) (h : IsDiff o b f t) : diffP i o b = some ⟨i, f, (b.take t).drop f⟩ := by
  have hex : o.length = 256 ∧ b.length = 256 ∧ ∃ f t, IsDiff o b f t := ⟨ho, hb, f, t, h⟩
  have hs := hex.2.2.choose_spec.choose_spec
  obtain ⟨e1, e2⟩ := hs.one h
  rw [diffP, dif_pos hex]
  simp only [e2]
  simp only [e1]
theorem diffP_none {i : Int} {o b : List UInt8} (h : o = b ∨ o.length ≠ 256 ∨ b.length ≠ 256) : diffP i o b = none := by
  rw [diffP, dif_neg]
  rintro ⟨h1, h2, f, t, h3⟩
  rcases h with h | h | h
  · subst h; exact h3.at0 rfl
  · exact h h1
  · exact h h2
/-- What two lists of 256 bytes that are not one differ in. -/
theorem first_diff {o b : List UInt8} (ho : o.length = 256) (hb : b.length = 256) (h : o ≠ b) : ∃ f, f < 256 ∧ (∀ j, j < f → Sp.bt o j = Sp.bt b j) ∧ Sp.bt o f ≠ Sp.bt b f := by
  have h1 : ∃ j, j < 256 ∧ Sp.bt o j ≠ Sp.bt b j := by
    rcases Classical.em (∃ j, j < 256 ∧ Sp.bt o j ≠ Sp.bt b j) with k | k
    · exact k
    · exfalso
      apply h
      apply List.ext_getElem (by omega)
      intro j h1 h2
      rcases Classical.em (Sp.bt o j = Sp.bt b j) with e | e
      · have e1 := (Sp.bt_eq o j h1 b[j]).1 (by rw [e]; exact (Sp.bt_eq b j h2 b[j]).2 rfl)
        exact e1
      · exact absurd ⟨j, by omega, e⟩ k
  obtain ⟨m, hm⟩ : ∃ m, m = 256 := ⟨_, rfl⟩
  have key : ∀ m, (∃ j, j < m ∧ Sp.bt o j ≠ Sp.bt b j) → ∃ f, f < m ∧ (∀ j, j < f → Sp.bt o j = Sp.bt b j) ∧ Sp.bt o f ≠ Sp.bt b f := by
    intro m
    induction m with
    | zero => rintro ⟨j, hj, _⟩; omega
    | succ m ih =>
      rintro ⟨j, hj, hne⟩
      rcases Classical.em (∃ j, j < m ∧ Sp.bt o j ≠ Sp.bt b j) with k | k
      · obtain ⟨f, h1, h2⟩ := ih k
        exact ⟨f, by omega, h2⟩
      · obtain rfl : j = m := by
          rcases Nat.lt_or_ge j m with h | h
          · exact absurd ⟨j, h, hne⟩ k
          · omega
        exact ⟨j, by omega, fun i hi => by
          rcases Classical.em (Sp.bt o i = Sp.bt b i) with e | e
          · exact e
          · exact absurd ⟨i, hi, e⟩ k, hne⟩
  exact key 256 h1
theorem cut_cut (b : List UInt8) (f t : Nat) : (str b).extract f t = str ((b.take t).drop f) := by
  apply ByteArray.ext
  apply Array.toList_inj.1
  simp [ByteArray.data_extract, List.drop_take]
end Go.Proofs.YtijhamllnnilbaaGreatDoor.Gr
namespace Go.Proofs.YtijhamllnnilbaaGreatDoor.Gr
open Go.RowKit Go.Proofs.YtijhamllnnilbaaGreatDoor.Mem Go.Proofs.YtijhamllnnilbaaGreatDoor.Pg Go.Proofs.YtijhamllnnilbaaGreatDoor.Kp
set_option linter.unusedSimpArgs false
set_option linter.unusedVariables false

set_option maxRecDepth 100000 in
theorem right_any (i : Int) (s : ByteArray) (w : World) (h0 : 0 ≤ i) (h1 : i < 64) :
    Calls Tryz.prog 184 #[.int .i64 i, .string s] w fun e w' => e = .returned (.bool (decide (s.size = 256))) ∧ w' = w := by
  have d0 : decide (0 ≤ i) = true := by simpa using h0
  have d1 : decide (i < 64) = true := by simpa using h1
  by_cases h : s.size = 256
  · have d2 : ((s.size : Int) == 256) = true := by simp; omega
    rw [decide_eq_true h]
    clear h
    go_enter Tryz.func184, Tryz.ntmps184
    go_wp2_with fail
    go_ret
    exact ⟨rfl, rfl⟩
  · have d2 : ((s.size : Int) == 256) = false := by simp; omega
    rw [decide_eq_false h]
    clear h
    go_enter Tryz.func184, Tryz.ntmps184
    go_wp2_with fail
    go_ret
    exact ⟨rfl, rfl⟩
theorem set3_same {w : World} {g : Nat} {a b c : Value} {t : TypeId} (h : w.heap[g]? = some (.cells #[a, b, c] t (0, 0))) (a' b' c' : Value) :
    (((w.setCell ⟨g, 0, none⟩ a').setCell ⟨g, 1, none⟩ b').setCell ⟨g, 2, none⟩ c').heap[g]? = some (.cells #[a', b', c'] t (0, 0)) := by
  have h1 := heap_setCell_same w g 0 _ t a' h
  have h2 := heap_setCell_same _ g 1 _ t b' h1
  exact heap_setCell_same _ g 2 _ t c' h2
abbrev zqv : Value := .agg #[.int .i64 0, .int .i64 0, .string ⟨#[]⟩]
abbrev zqo : Obj := .cells #[.int .i64 0, .int .i64 0, .string ⟨#[]⟩] 206

set_option maxRecDepth 100000 in
set_option maxHeartbeats 2000000 in
theorem diff_no (i : Int) (o b : List UInt8) (w : World) (h0 : 0 ≤ i) (h1 : i < 64) (h : o = b ∨ o.length ≠ 256 ∨ b.length ≠ 256) :
    Calls Tryz.prog 128 #[.int .i64 i, .string (str o), .string (str b)] w fun e w' => e = .returned (.tuple #[zqv, .bool false]) ∧ Below w.heap.size w w' := by
  have hr := fun s W => right_any i s W h0 h1
  have hc := blk_cell (heap_alloc_new w zqo)
  have hb := below_al (Below.refl _ w) zqo
  by_cases ho : o.length = 256
  · have hro := fun W => hr (str o) W
    rw [decide_eq_true (show (str o).size = 256 by rw [str_size]; exact ho)] at hro
    by_cases hb' : b.length = 256
    · have hrb := fun W => hr (str b) W
      rw [decide_eq_true (show (str b).size = 256 by rw [str_size]; exact hb')] at hrb
      obtain rfl : o = b := by
        rcases h with h | h | h
        · exact h
        · exact absurd ho h
        · exact absurd hb' h
      have hee : ((str o).toList == (str o).toList) = true := by simp
      generalize str o = S at *
      clear h hr ho hb'
      go_enter Tryz.func128, Tryz.ntmps128
      go_wp2_with fail
      with_reducible refine (hro _).mono ?_
      rintro e w1 ⟨rfl, rfl⟩
      go_wp2_with fail
      with_reducible refine (hrb _).mono ?_
      rintro e w1 ⟨rfl, rfl⟩
      go_wp2_with fail
      refine bodyPost_ret (v := .tuple #[zqv, .bool false]) (by simp [results, Tryz.results128, go_sem, hc]) rfl ⟨rfl, ?_⟩
      exact hb
    · have hrb := fun W => hr (str b) W
      rw [decide_eq_false (show ¬ (str b).size = 256 by rw [str_size]; exact hb')] at hrb
      generalize str o = S at *
      generalize str b = T at *
      clear h hr ho hb'
      go_enter Tryz.func128, Tryz.ntmps128
      go_wp2_with fail
      with_reducible refine (hro _).mono ?_
      rintro e w1 ⟨rfl, rfl⟩
      go_wp2_with fail
      with_reducible refine (hrb _).mono ?_
      rintro e w1 ⟨rfl, rfl⟩
      go_wp2_with fail
      refine bodyPost_ret (v := .tuple #[zqv, .bool false]) (by simp [results, Tryz.results128, go_sem, hc]) rfl ⟨rfl, ?_⟩
      exact hb
  · have hro := fun W => hr (str o) W
    rw [decide_eq_false (show ¬ (str o).size = 256 by rw [str_size]; exact ho)] at hro
    generalize str o = S at *
    generalize str b = T at *
    clear h hr ho
    go_enter Tryz.func128, Tryz.ntmps128
    go_wp2_with fail
    with_reducible refine (hro _).mono ?_
    rintro e w1 ⟨rfl, rfl⟩
    go_wp2_with fail
    refine bodyPost_ret (v := .tuple #[zqv, .bool false]) (by simp [results, Tryz.results128, go_sem, hc]) rfl ⟨rfl, ?_⟩
    exact hb

set_option maxRecDepth 100000 in
set_option maxHeartbeats 4000000 in
theorem diff_yes (i : Int) (o b : List UInt8) (w : World) (h0 : 0 ≤ i) (h1 : i < 64) (ho : o.length = 256) (hb' : b.length = 256) (h : o ≠ b) :
    Calls Tryz.prog 128 #[.int .i64 i, .string (str o), .string (str b)] w fun e w' => ∃ f t, IsDiff o b f t ∧ e = .returned (.tuple #[Pat.v ⟨i, f, (b.take t).drop f⟩, .bool true]) ∧ Below w.heap.size w w' := by
  have hro := fun W => right_any i (str o) W h0 h1
  have hrb := fun W => right_any i (str b) W h0 h1
  rw [decide_eq_true (show (str o).size = 256 by rw [str_size]; exact ho)] at hro
  rw [decide_eq_true (show (str b).size = 256 by rw [str_size]; exact hb')] at hrb
  have hk := heap_alloc_new w zqo
  have hc := blk_cell hk
  have hf := blk_free hk
  have hbl := below_al (Below.refl _ w) zqo
  obtain ⟨f, hf256, hpre, hat⟩ := first_diff ho hb' h
  have hbo := Sp.str_bt o
  have hbb := Sp.str_bt b
  have hSs : (str o).size = 256 := by rw [str_size]; exact ho
  have hTs : (str b).size = 256 := by rw [str_size]; exact hb'
  have hne : ((str o).toList == (str b).toList) = false := (Lib.bytes_beq_false_iff _ _).2 (fun e => h (by
    have e := congrArg (fun t : ByteArray => t.data.toList) e
    exact e))
  have hcut := cut_cut b
  obtain ⟨S, hS⟩ : ∃ S, S = str o := ⟨_, rfl⟩
  obtain ⟨T, hT⟩ : ∃ T, T = str b := ⟨_, rfl⟩
  rw [← hS] at hro hbo hSs hne ⊢
  rw [← hT] at hrb hbb hTs hne hcut ⊢
  have Hbo := Lib.hid hbo
  have Hbb := Lib.hid hbb
  have Hpre := Lib.hid hpre
  have Hat := Lib.hid hat
  have Hcut := Lib.hid hcut
  clear hbo hbb hpre hat hS hT h ho hb' hcut
  go_enter Tryz.func128, Tryz.ntmps128
  go_wp2_with fail
  with_reducible refine (hro _).mono ?_
  rintro e w1 ⟨rfl, rfl⟩
  go_wp2_with fail
  with_reducible refine (hrb _).mono ?_
  rintro e w1 ⟨rfl, rfl⟩
  go_wp2_with fail
  clear hro hrb hne
  go_loopw [8] (fun u wr => ∃ j : Nat, u = .int .i64 j ∧ j ≤ f ∧ Below w.heap.size w wr ∧ wr.heap[w.heap.size]? = some (.cells #[.int .i64 0, .int .i64 0, .string ⟨#[]⟩] 206 (0, 0))) (fun u _ => f - (intOf u).toNat)
  case atStart => exact ⟨0, rfl, Nat.zero_le _, hbl, hk⟩
  case round =>
    clear hk hc hf hbl
    obtain ⟨j, rfl, hj, hbl, hk⟩ := hrel
    have hjS : j < S.size := by omega
    have hjT : j < T.size := by omega
    have hjS' : (j : Int) < (S.size : Int) := by omega
    have hjT' : (j : Int) < (T.size : Int) := by omega
    have b1 := Hbo.out j hjS
    have b2 := Hbb.out j hjT
    have i1 : IntKind.i64.wrap ((j : Int) + 1) = (j : Int) + 1 := IntWalk.i64_in _ (by omega)
    by_cases hlt : j < f
    · have e : (Sp.bt o j == Sp.bt b j) = true := by rw [Hpre.out j hlt]; simp
      have e' : decide (Sp.bt o j = Sp.bt b j) = true := by rw [Hpre.out j hlt]; simp
      go_wp2_with fail
      go_region
      go_wp2_with fail
      go_roundw
      case rel => exact ⟨j + 1, by go_num, by omega, below_dr hbl, hk⟩
      case measure => clear i1; simp [intOf]; omega
    · obtain rfl : j = f := by omega
      have e : (Sp.bt o j == Sp.bt b j) = false := by simpa using Hat.out
      have e' : decide (Sp.bt o j = Sp.bt b j) = false := by simpa using Hat.out
      clear i1
      go_wp2_with fail
      go_region
      go_wp2_with fail
      go_loopw [9] (fun u wx => ∃ t : Nat, u = .int .i64 ((t : Int) + 1) ∧ j ≤ t ∧ t + 1 ≤ 256 ∧ Hid (∀ i, t + 1 ≤ i → i < 256 → Sp.bt o i = Sp.bt b i) ∧ Below w.heap.size w wx ∧ wx.heap[w.heap.size]? = some (.cells #[.int .i64 0, .int .i64 0, .string ⟨#[]⟩] 206 (0, 0))) (fun u _ => (intOf u).toNat)
      case atStart => exact ⟨255, rfl, by omega, by omega, Lib.hid (fun i h1 h2 => absurd h1 (by omega)), below_dr hbl, hk⟩
      case round =>
        clear hbl hk e e' b1 b2 hjS hjT hjS' hjT'
        obtain ⟨t, rfl, hjt, ht, hpost, hbl, hk⟩ := hrel
        have i1 : IntKind.i64.wrap ((t : Int) + 1 - 1) = (t : Int) := by rw [IntWalk.i64_in _ (by omega)]; omega
        have i2 : ((t : Int) + 1 - 1) = (t : Int) := by omega
        have htS : t < S.size := by omega
        have htT : t < T.size := by omega
        have htS' : (t : Int) < (S.size : Int) := by omega
        have htT' : (t : Int) < (T.size : Int) := by omega
        have b1 := Hbo.out t htS
        have b2 := Hbb.out t htT
        by_cases hEq : Sp.bt o t = Sp.bt b t
        · have e : (Sp.bt o t == Sp.bt b t) = true := by rw [hEq]; simp
          have e' : decide (Sp.bt o t = Sp.bt b t) = true := by rw [hEq]; simp
          have hjt2 : j < t := by
            rcases Nat.lt_or_ge j t with h | h
            · exact h
            · obtain rfl : t = j := by omega
              exact absurd hEq Hat.out
          have hp' : Hid (∀ i, t ≤ i → i < 256 → Sp.bt o i = Sp.bt b i) := Lib.hid (fun i h1 h2 => by
            rcases Nat.lt_or_ge t i with h | h
            · exact hpost.out i (by omega) h2
            · obtain rfl : i = t := by omega
              exact hEq)
          obtain ⟨t', rfl⟩ : ∃ t', t = t' + 1 := ⟨t - 1, by omega⟩
          have hc : ((t' + 1 : Nat) : Int) = (t' : Int) + 1 := by omega
          clear hEq
          go_wp2_with fail
          go_region
          go_wp2_with fail
          go_roundw
          case rel => exact ⟨t', rfl, by omega, by omega, hp', below_dr hbl, hk⟩
          case measure => clear i1; simp [intOf]; omega
        · have e : (Sp.bt o t == Sp.bt b t) = false := by simpa using hEq
          have e' : decide (Sp.bt o t = Sp.bt b t) = false := by simpa using hEq
          have hd : Hid (IsDiff o b j (t + 1)) := Lib.hid ⟨by omega, ht, Hpre.out, Hat.out, fun i h1 h2 => hpost.out i h1 h2, hEq⟩
          have hc := blk_cell hk
          have hf := blk_free hk
          have hz := lt_of_block hk
          have x1 : (j : Int) ≤ (t : Int) + 1 := by omega
          have x2 : (t : Int) + 1 ≤ (T.size : Int) := by omega
          have x3 : (0 : Int) ≤ (j : Int) := by omega
          have x4 : (0 : Int) ≤ (t : Int) + 1 := by omega
          have x5 : j ≤ t + 1 := by omega
          obtain ⟨q, hq⟩ : ∃ q : Nat, q = t + 1 := ⟨_, rfl⟩
          have hqi : (t : Int) + 1 = (q : Int) := by omega
          rw [hqi] at i1 x1 x2 x4 ⊢
          rw [← hq] at x5 hd
          have x2' : q ≤ 256 := by omega
          have x2'' : (q : Int) ≤ 256 := by omega
          have x1' : j ≤ q := x5
          have x6 : ((q : Int)).toNat = q := Int.toNat_natCast q
          have hcq := Hcut.out j q
          have Hq := Lib.hid hq
          clear hEq i2 hqi hq
          go_wp2_with fail
          go_region
          go_wp2_with fail
          refine bodyPost_ret (v := .tuple #[.agg #[.int .i64 i, .int .i64 j, .string (str ((b.take q).drop j))], .bool true]) (by simp [results, Tryz.results128, go_sem, hc]) rfl ?_
          refine ⟨j, q, hd.out, ?_, ?_⟩
          · rfl
          · exact below_dr (below_set (below_set (below_set hbl (Nat.le_refl _)) (Nat.le_refl _)) (Nat.le_refl _))

end Go.Proofs.YtijhamllnnilbaaGreatDoor.Gr
