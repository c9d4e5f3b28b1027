/- Lemmas of the claim, in their order:
- Plain mathematics of chapter 9: maps of pages as lists of bytes. No program in sight.
- The contract of space's set: one byte of a page's body turned.
- The contract of space.Pages: how many pages a map has.
- The contract of the book's SameInts.
-/
import Derived.Lib.TrimByte
import Derived.Test.YtijhamllnnilbaaGreatDoorU01
import Derived.Laws.BytesArg
import Derived.Test.YtijhamllnnilbaaGreatDoorProg
import Derived.KernelRfl
import Derived.Deep.QuietTactic
import Derived.BigQuiet
import Derived.Outline
set_option linter.unusedVariables false
set_option linter.unusedSimpArgs false
namespace Go.Proofs.YtijhamllnnilbaaGreatDoor.Sp

/-- Byte i as a number. -/
def bt (l : List UInt8) (i : Nat) : Int := ((l.getD i 0).toNat : Int)
def okB (c : UInt8) : Bool := c == 1 || c == 2
/-- How many pages a map has. -/
def pagesF (k : Int) (l : List UInt8) : Nat :=
  if k = 2 ∧ l.length = 240 then
    (if 8 ≤ (Lib.trimRightB l 0).length ∧ (Lib.trimRightB l 0).length ≤ 64 ∧ bt (Lib.trimRightB l 0) 0 = 1 ∧ bt (Lib.trimRightB l 0) 1 = 1 ∧ (Lib.trimRightB l 0).all okB = true then (Lib.trimRightB l 0).length else 0)
  else 0

theorem bt_range (l : List UInt8) (i : Nat) : 0 ≤ bt l i ∧ bt l i ≤ 255 := by
  unfold bt
  have := (l.getD i 0).toNat_lt
  omega
theorem bt_eq (l : List UInt8) (i : Nat) (h : i < l.length) (c : UInt8) : bt l i = (c.toNat : Int) ↔ l[i] = c := by
  unfold bt
  rw [List.getD_eq_getElem?_getD, List.getElem?_eq_getElem h, Option.getD_some]
  constructor
  · intro h; exact UInt8.toNat_inj.1 (by omega)
  · intro h; rw [h]
/-- All bytes up to k are fine. -/
def OkTo (l : List UInt8) (k : Nat) : Prop := ∀ j, j < k → bt l j = 1 ∨ bt l j = 2
theorem okTo_all (l : List UInt8) : OkTo l l.length ↔ l.all okB = true := by
  rw [List.all_eq_true]
  constructor
  · intro h c hc
    obtain ⟨i, hi, rfl⟩ := List.getElem_of_mem hc
    have := h i hi
    unfold okB
    rcases this with h1 | h1
    · rw [(bt_eq l i hi 1).1 h1]; rfl
    · rw [(bt_eq l i hi 2).1 h1]; rfl
  · intro h j hj
    have := h l[j] (List.getElem_mem hj)
    unfold okB at this
    simp at this
    rcases this with h1 | h1
    · left; exact (bt_eq l j hj 1).2 h1
    · right; exact (bt_eq l j hj 2).2 h1
theorem OkTo.succ {l : List UInt8} {k : Nat} (h : OkTo l k) (hk : bt l k = 1 ∨ bt l k = 2) : OkTo l (k + 1) := fun j hj => by
  rcases Nat.lt_or_ge j k with h1 | h1
  · exact h j h1
  · obtain rfl : j = k := by omega
    exact hk

theorem pagesF_le (k : Int) (l : List UInt8) : pagesF k l ≤ 64 := by
  unfold pagesF
  split
  · split
    · rename_i h; exact h.2.1
    · omega
  · omega
theorem pagesF_len (k : Int) (l : List UInt8) (h : pagesF k l ≠ 0) : k = 2 ∧ l.length = 240 ∧ 8 ≤ pagesF k l := by
  unfold pagesF at h ⊢
  split at h
  · rename_i h1
    split at h
    · rename_i h2
      rw [if_pos h1, if_pos h2]
      exact ⟨h1.1, h1.2, h2.1⟩
    · exact absurd rfl h
  · exact absurd rfl h
end Go.Proofs.YtijhamllnnilbaaGreatDoor.Sp
namespace Go.Proofs.YtijhamllnnilbaaGreatDoor.Sp
open Go.RowKit Go.Proofs.YtijhamllnnilbaaGreatDoor.Mem Go.Proofs.YtijhamllnnilbaaGreatDoor.Pg

theorem conv_one (W : World) (g c : Nat) (b : UInt8) (h : W.cell? ⟨g, 0, none⟩ = some (.int .u8 b.toNat)) :
    (convert 43 9 (.slice (some ⟨g, 0, none⟩) 1 c)).run Tryz.prog W = .ok (.string ⟨#[b]⟩) W := by
  have h0 : ∀ i, i < 1 → W.cell? ⟨g, 0 + i, none⟩ = some (.int .u8 ([(b.toNat : Int)].getD i 0)) := fun i hi => by
    obtain rfl : i = 0 := by omega
    simpa using h
  have := run_convert_bytes_arg (P := Tryz.prog) W 43 5 Tryz.underlying43 Tryz.underlying5 g 0 1 c [(b.toNat : Int)] rfl h0 9 Tryz.underlying9
  rw [this]
  simp [strOfNums]

theorem cut_set (l : List UInt8) (n : Nat) (b : UInt8) (hn : n < l.length) : (str l).extract 0 n ++ ⟨#[b]⟩ ++ (str l).extract (n + 1) (str l).size = str (l.set n b) := by
  apply ByteArray.ext
  apply Array.toList_inj.1
  simp [ByteArray.data_append, ByteArray.data_extract, str_size]
  rw [List.set_eq_take_append_cons_drop, if_pos hn, List.take_of_length_le (l := List.drop (n + 1) l) (by simp)]

set_option maxRecDepth 100000 in
set_option maxHeartbeats 2000000 in
theorem set_any (k d x : Int) (l : List UInt8) (n : Nat) (b : UInt8) (w : World) (hn : n < l.length) (hl : l.length ≤ 1000) :
    Calls Tryz.prog 159 #[.agg #[.int .i64 k, .int .i64 d, .int .i64 x, .string (str l)], .int .i64 n, .int .u8 b.toNat] w fun e w' =>
      e = .returned (.agg #[.int .i64 k, .int .i64 d, .int .i64 x, .string (str (l.set n b))]) ∧ Below w.heap.size w w' := by
  obtain ⟨s, hs⟩ : ∃ s, s = str l := ⟨_, rfl⟩
  rw [← hs]
  have hss : s.size = l.length := by rw [hs, str_size]
  have hn1 : n < s.size := by omega
  have hn2 : n + 1 ≤ s.size := by omega
  have hn3 : s.size ≤ 1000 := by omega
  have hcv := fun W g c => conv_one W g c b
  have hn0 : n ≤ s.size := by omega
  have hw1 : IntKind.i64.wrap ((n : Int) + 1) = (n : Int) + 1 := IntWalk.i64_in _ (by omega)
  have hw2 : (0 : Int) ≤ (n : Int) + 1 := by omega
  have hw3 : ((n : Int) + 1).toNat = n + 1 := by omega
  have Hs := Lib.hid hs
  have Hss := Lib.hid hss
  clear hs hss
  go_enter Tryz.func159, Tryz.ntmps159
  go_wp2_with fail
  go_region
  go_wp2
  have hfin : s.extract 0 n ++ ⟨#[b]⟩ ++ s.extract (n + 1) s.size = str (l.set n b) := by rw [Hs.out]; exact cut_set l n b hn
  refine bodyPost_ret (v := .agg #[.int .i64 k, .int .i64 d, .int .i64 x, .string (str (l.set n b))]) (by simp [results, Tryz.results159, go_sem, hfin]) rfl ⟨rfl, ?_⟩
  exact below_dr (below_al (below_al (below_al (Below.refl _ _) _) _) _)
end Go.Proofs.YtijhamllnnilbaaGreatDoor.Sp
namespace Go.Proofs.YtijhamllnnilbaaGreatDoor.Sp
open Go.RowKit Go.Proofs.YtijhamllnnilbaaGreatDoor.Mem Go.Proofs.YtijhamllnnilbaaGreatDoor.Pg

theorem str_bt (l : List UInt8) (i : Nat) (h : i < (str l).size) : (((str l)[i]'h).toNat : Int) = bt l i := by
  have h' : i < l.length := by rw [← str_size l]; exact h
  unfold bt
  rw [List.getD_eq_getElem?_getD, List.getElem?_eq_getElem h', Option.getD_some]
  rfl

set_option maxRecDepth 100000 in
set_option maxHeartbeats 4000000 in
theorem pages_any (k d x : Int) (l : List UInt8) (w : World) (hl : l.length ≤ 1000000) :
    Calls Tryz.prog 67 #[.agg #[.int .i64 k, .int .i64 d, .int .i64 x, .string (str l)]] w fun e w' =>
      e = .returned (.int .i64 (pagesF k l)) ∧ Below w.heap.size w w' := by
  obtain ⟨s, hs⟩ : ∃ s, s = str l := ⟨_, rfl⟩
  rw [← hs]
  have hss : s.size = l.length := by rw [hs, str_size]
  have hsl : s.size ≤ 1000000 := by omega
  have htl : s.data.toList = l := by rw [hs]
  have htr := fun (w : World) => Tryz.strings_TrimRight_one s 0 (by decide) w (by omega)
  rw [htl] at htr
  have Hss := Lib.hid hss
  clear hs hss htl
  by_cases hk : k = 2
  · by_cases h240 : s.size = 240
    · have hk' : (k != 2) = false := by simpa using hk
      have h240' : ((s.size : Int) != 240) = false := by simp; omega
      obtain ⟨t, ht⟩ : ∃ t, t = Lib.trimRightB l 0 := ⟨_, rfl⟩
      obtain ⟨r, hr⟩ : ∃ r, r = str t := ⟨_, rfl⟩
      have htr' : ∀ w, Calls Tryz.prog 153 #[.string s, .string ⟨#[0]⟩] w fun e w' => e = .returned (.string r) ∧ w' = w := by
        rw [hr, ht]; exact htr
      have hrs : r.size = t.length := by rw [hr, str_size]
      have hbt : ∀ (i : Nat) (h : i < r.size), ((r[i]'h).toNat : Int) = bt t i := by rw [hr]; exact str_bt t
      have hpf : pagesF k l = if 8 ≤ t.length ∧ t.length ≤ 64 ∧ bt t 0 = 1 ∧ bt t 1 = 1 ∧ t.all okB = true then t.length else 0 := by
        unfold pagesF
        rw [if_pos ⟨hk, by rw [← Hss.out]; exact h240⟩, ht]
      have Hpf := Lib.hid hpf
      have Hrs := Lib.hid hrs
      have Hk := Lib.hid hk
      have H240 := Lib.hid h240
      clear hr ht htr hpf hrs hk h240
      by_cases h8 : 8 ≤ r.size
      · have d8 : decide (r.size < 8) = false := by simp; omega
        have d8' : decide ((r.size : Int) < 8) = false := by simp; omega
        by_cases h64 : r.size ≤ 64
        · have b0 := hbt 0 (by omega)
          have b1 := hbt 1 (by omega)
          have d64 : decide (64 < r.size) = false := by simp; omega
          have d64' : decide ((64 : Int) < (r.size : Int)) = false := by simp; omega
          have i0 : (0 : Int) < (r.size : Int) := by omega
          have i1 : (1 : Int) < (r.size : Int) := by omega
          by_cases e0 : bt t 0 = 1
          · have e0' : (bt t 0 != 1) = false := by simpa using e0
            have E0 := Lib.hid e0
            clear e0
            by_cases e1 : bt t 1 = 1
            · have e1' : (bt t 1 != 1) = false := by simpa using e1
              have E1 := Lib.hid e1
              have Hbt := Lib.hid hbt
              clear e1 hbt
              go_enter Tryz.func67, Tryz.ntmps67
              go_wp2_with (go_at_call 153; refine (htr' _).mono ?_; rintro e w1 ⟨rfl, rfl⟩)
              clear b0 b1 e0' e1' i0 i1 d8 d8' d64 d64'
              go_loopw [37] (fun i wr => ∃ j : Nat, i = .int .i64 j ∧ j ≤ r.size ∧ OkTo t j ∧ Below w.heap.size w wr) (fun i _ => r.size - (intOf i).toNat)
              case atStart => exact ⟨0, rfl, Nat.zero_le _, fun j hj => absurd hj (by omega), below_al (Below.refl _ _) _⟩
              case round =>
                obtain ⟨j, rfl, hj, hok, hbel⟩ := hrel
                have Hok := Lib.hid hok
                clear hok
                by_cases hlt : j < r.size
                · have hb := Hbt.out j hlt
                  by_cases c1 : bt t j = 1
                  · have c1' : (bt t j != 1) = false := by simpa using c1
                    have C := Lib.hid c1
                    clear c1
                    go_wp2
                    go_roundw
                    case rel => exact ⟨j + 1, by go_num, by omega, Hok.out.succ (.inl C.out), hbel⟩
                    case measure => simp [intOf]; omega
                  · have c1' : (bt t j != 1) = true := by simpa using c1
                    have C1 := Lib.hid c1
                    clear c1
                    by_cases c2 : bt t j = 2
                    · have c2' : (bt t j != 2) = false := by simpa using c2
                      have C := Lib.hid c2
                      clear c2
                      go_wp2
                      go_roundw
                      case rel => exact ⟨j + 1, by go_num, by omega, Hok.out.succ (.inr C.out), hbel⟩
                      case measure => simp [intOf]; omega
                    · have c2' : (bt t j != 2) = true := by simpa using c2
                      have C2 := Lib.hid c2
                      clear c2
                      go_wp2
                      go_ret
                      refine ⟨?_, hbel⟩
                      rw [Hpf.out, if_neg (fun h => ?_)]
                      · rfl
                      · rcases (okTo_all t).2 h.2.2.2.2 j (by rw [← Hrs.out]; exact hlt) with h1 | h1
                        · exact C1.out h1
                        · exact C2.out h1
                · obtain rfl : j = r.size := by omega
                  go_wp2
                  go_ret
                  refine ⟨?_, hbel⟩
                  rw [Hpf.out, if_pos ⟨by rw [← Hrs.out]; exact h8, by rw [← Hrs.out]; exact h64, E0.out, E1.out, (okTo_all t).1 (by rw [← Hrs.out]; exact Hok.out)⟩, ← Hrs.out]
                  rfl
            · have e1' : (bt t 1 != 1) = true := by simpa using e1
              have E1 := Lib.hid e1
              clear e1
              go_enter Tryz.func67, Tryz.ntmps67
              go_wp2_with (go_at_call 153; refine (htr' _).mono ?_; rintro e w1 ⟨rfl, rfl⟩)
              go_ret
              exact ⟨by rw [Hpf.out, if_neg (fun h => E1.out h.2.2.2.1)]; rfl, below_al (Below.refl _ _) _⟩
          · have e0' : (bt t 0 != 1) = true := by simpa using e0
            have E0 := Lib.hid e0
            clear e0
            go_enter Tryz.func67, Tryz.ntmps67
            go_wp2_with (go_at_call 153; refine (htr' _).mono ?_; rintro e w1 ⟨rfl, rfl⟩)
            go_ret
            exact ⟨by rw [Hpf.out, if_neg (fun h => E0.out h.2.2.1)]; rfl, below_al (Below.refl _ _) _⟩
        · have d64 : decide (64 < r.size) = true := by simp; omega
          have d64' : decide ((64 : Int) < (r.size : Int)) = true := by simp; omega
          go_enter Tryz.func67, Tryz.ntmps67
          go_wp2_with (go_at_call 153; refine (htr' _).mono ?_; rintro e w1 ⟨rfl, rfl⟩)
          go_ret
          exact ⟨by rw [Hpf.out, if_neg (fun h => h64 (by rw [Hrs.out]; exact h.2.1))]; rfl, below_al (Below.refl _ _) _⟩
      · have d8 : decide (r.size < 8) = true := by simp; omega
        have d8' : decide ((r.size : Int) < 8) = true := by simp; omega
        go_enter Tryz.func67, Tryz.ntmps67
        go_wp2_with (go_at_call 153; refine (htr' _).mono ?_; rintro e w1 ⟨rfl, rfl⟩)
        go_ret
        exact ⟨by rw [Hpf.out, if_neg (fun h => h8 (by rw [Hrs.out]; exact h.1))]; rfl, below_al (Below.refl _ _) _⟩
    · have h240' : ((s.size : Int) != 240) = true := by simp; omega
      have hpf : pagesF k l = 0 := by unfold pagesF; rw [if_neg (fun h => h240 (by rw [Hss.out]; exact h.2))]
      have hk' : (k != 2) = false := by simpa using hk
      clear hk
      go_enter Tryz.func67, Tryz.ntmps67
      go_wp2
      go_ret
      exact ⟨by rw [hpf]; rfl, below_al (Below.refl _ _) _⟩
  · have hk' : (k != 2) = true := by simpa using hk
    have hpf : pagesF k l = 0 := by unfold pagesF; rw [if_neg (fun h => hk h.1)]
    go_enter Tryz.func67, Tryz.ntmps67
    go_wp2
    go_ret
    exact ⟨by rw [hpf]; rfl, below_al (Below.refl _ _) _⟩
end Go.Proofs.YtijhamllnnilbaaGreatDoor.Sp
namespace Go.Proofs.YtijhamllnnilbaaGreatDoor.Mem
open Go.RowKit

theorem eq_of_getD {xs ys : List Int} {n : Nat} (hx : xs.length = n) (hy : ys.length = n) (h : ∀ j, j < n → xs.getD j 0 = ys.getD j 0) : xs = ys := by
  refine List.ext_getElem (by omega) fun j h1 h2 => ?_
  have := h j (by omega)
  simpa [List.getD_eq_getElem?_getD, List.getElem?_eq_getElem h1, List.getElem?_eq_getElem h2] using this

/-- The same up to k. -/
def SameTo (xs ys : List Int) (k : Nat) : Prop := ∀ j, j < k → xs.getD j 0 = ys.getD j 0
theorem SameTo.succ {xs ys : List Int} {k : Nat} (h : SameTo xs ys k) (he : xs.getD k 0 = ys.getD k 0) : SameTo xs ys (k + 1) := fun j hj => by
  rcases Nat.lt_or_ge j k with h1 | h1
  · exact h j h1
  · obtain rfl : j = k := by omega
    exact he

set_option maxRecDepth 100000 in
set_option maxHeartbeats 1000000 in
theorem sameInts_any (A B : Option Addr) (n m c d : Nat) (xs ys : List Int) (w : World) (ha : Ints w A n xs) (hb : Ints w B m ys) :
    Calls Tryz.prog 33 #[.slice A n c, .slice B m d] w fun e w' => e = .returned (.bool (decide (xs = ys))) ∧ Below w.heap.size w w' := by
  have hn := ha.2.1
  by_cases hnm : n = m
  · subst hnm
    go_enter Tryz.func33, Tryz.ntmps33
    go_wp2
    go_loopw [5] (fun i wr => ∃ k : Nat, i = .int .i64 k ∧ k ≤ n ∧ SameTo xs ys k ∧ Below w.heap.size w wr) (fun i _ => n - (intOf i).toNat)
    case atStart => exact ⟨0, rfl, Nat.zero_le _, fun j hj => absurd hj (by omega), Below.refl _ _⟩
    case round =>
      obtain ⟨k, rfl, hk, htk, hbel⟩ := hrel
      by_cases hlt : k < n
      · obtain ⟨b, off, rfl, _, hca⟩ := (ha.below hbel).2.2 (by omega)
        obtain ⟨b', off', rfl, _, hcb⟩ := (hb.below hbel).2.2 (by omega)
        have g1 := hca k hlt
        have g2 := hcb k hlt
        obtain ⟨x, hx⟩ : ∃ x, x = xs.getD k 0 := ⟨_, rfl⟩
        obtain ⟨y, hy⟩ : ∃ y, y = ys.getD k 0 := ⟨_, rfl⟩
        rw [← hx] at g1
        rw [← hy] at g2
        have Hx := Lib.hid hx
        have Hy := Lib.hid hy
        clear hx hy hca hcb
        by_cases he : x = y
        · subst he
          go_wp2
          go_quiet (fail)
          go_wp2
          go_roundw
          case rel => exact ⟨k + 1, by go_num, by omega, htk.succ (Hx.out ▸ Hy.out), below_drN hbel _⟩
          case measure => simp [intOf]; omega
        · have he' : (x == y) = false := by simpa using he
          go_wp2
          go_quiet (fail)
          go_wp2
          go_ret
          have hne : xs ≠ ys := by
            rintro rfl
            exact he (Hx.out.trans Hy.out.symm)
          exact ⟨by simp [hne], below_drN hbel _⟩
      · obtain rfl : k = n := by omega
        go_wp2
        go_ret
        have he := eq_of_getD ha.1 hb.1 htk
        exact ⟨by simp [he], hbel⟩
  · have hnm' : ((n : Int) != (m : Int)) = true := by simp; omega
    go_enter Tryz.func33, Tryz.ntmps33
    go_wp2
    go_ret
    have hne : xs ≠ ys := by
      rintro rfl
      exact hnm (ha.1.symm.trans hb.1)
    exact ⟨by simp [hne], Below.refl _ _⟩
end Go.Proofs.YtijhamllnnilbaaGreatDoor.Mem
