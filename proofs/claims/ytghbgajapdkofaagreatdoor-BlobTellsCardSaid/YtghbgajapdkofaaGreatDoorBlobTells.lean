/- The law BlobTells: its walk. -/
import Derived.Test.YtghbgajapdkofaaGreatDoorBlobUni
import Derived.Test.YtghbgajapdkofaaGreatDoorBookPgApart
namespace Go.Proofs.YtghbgajapdkofaaGreatDoor.Bp
open Go.RowKit Go.Proofs.YtghbgajapdkofaaGreatDoor.Mem Go.Proofs.YtghbgajapdkofaaGreatDoor.Bk
theorem BookP.new {B pb : Nat} {w : World} {o : Nat → Nat} (hB : B ≤ pb) (h : w.heap[pb]? = some (.cells (bcp nl nl) 46 (0, 0))) (ho : o pb = 0) : BookP B pb 0 w o (fun _ => nl) (fun _ => nl) (fun _ => []) nl nl :=
  ⟨hB, h, World.ownsRow_nil _ _ _ _, World.ownsRow_nil _ _ _ _, fun i hi => absurd hi (by omega), fun i hi => absurd hi (by omega), ho, tag_nil _ _, tag_nil _ _, fun i hi => absurd hi (by omega), fun i hi => absurd hi (by omega)⟩
end Go.Proofs.YtghbgajapdkofaaGreatDoor.Bp
namespace Go.Proofs.YtghbgajapdkofaaGreatDoor.Bl
open Go.RowKit Go.Proofs.YtghbgajapdkofaaGreatDoor.Mem Go.Proofs.YtghbgajapdkofaaGreatDoor.Pg Go.Proofs.YtghbgajapdkofaaGreatDoor.Bk Go.Proofs.YtghbgajapdkofaaGreatDoor.Bp

/-- Whose the blocks are when the book is made: the first list's, the second's, others'. -/
def tg2 (kb : Nat) (v u : Value) : Nat → Nat := fun k => if k = kb then 0 else if v.ownBlock = some k then 3 else if u.ownBlock = some k then 5 else 100
theorem tg2_ge {kb : Nat} {v u : Value} {k : Nat} (h : k ≠ kb) : 3 ≤ tg2 kb v u k := by
  unfold tg2
  rw [if_neg h]
  split
  · omega
  · split <;> omega
theorem tg2_v {kb : Nat} {v u : Value} (h : ∀ g, v.ownBlock = some g → g < kb) : Tag (tg2 kb v u) v 3 := fun g hg => by
  have := h g hg
  unfold tg2
  rw [if_neg (by omega), if_pos hg]
theorem tg2_u {kb : Nat} {v u : Value} (h : ∀ g, u.ownBlock = some g → g < kb) (hn : ∀ g, u.ownBlock = some g → v.ownBlock ≠ some g) : Tag (tg2 kb v u) u 5 := fun g hg => by
  have := h g hg
  unfold tg2
  rw [if_neg (by omega), if_neg (hn g hg), if_pos hg]

set_option maxRecDepth 100000 in
set_option maxHeartbeats 8000000 in
theorem tells_any (l : List UInt8) (A : Option Addr) (n cap : Nat) (at' : List Int) (z : Int) (B : Option Addr) (q capl : Nat) (L : List P4) (w : World) (hz : n ≤ 1000 → Ints w A n at') (hat : at'.length = n) (hLq : L.length = q) (hL : q ≤ 1000 → Rp w B L) :
    Calls Tryz.prog 3 #[.string (str l), .slice A n cap, .int .i64 z, .slice B q capl] w fun e w' => e = .returned (.bool true) ∧ Below w.heap.size w w' := by
  have hss := str_size l
  obtain ⟨s, hs⟩ : ∃ s, s = str l := ⟨_, rfl⟩
  rw [← hs] at hss ⊢
  have HS := Lib.hid hs
  clear hs
  have Hz := Lib.hid hz
  have HL := Lib.hid hL
  have Hat := Lib.hid hat
  have HLq := Lib.hid hLq
  clear hz hL hat hLq
  by_cases h1 : 500 < l.length
  · have d1 : decide (500 < l.length) = true := by simpa using h1
    have d1' : decide ((500 : Int) < (l.length : Int)) = true := by simp; omega
    go_enter Tryz.func3, Tryz.ntmps3
    go_wp2_with fail
    refine (alive_any _).mono ?_
    rintro e w1 ⟨rfl, hb1⟩
    go_wp2
    go_ret
    exact ⟨rfl, hb1⟩
  have d1 : decide (500 < l.length) = false := by simpa using h1
  have d1' : decide ((500 : Int) < (l.length : Int)) = false := by simp; omega
  by_cases h2 : 5 < n
  · have d2 : decide (5 < n) = true := by simpa using h2
    have d2' : decide ((5 : Int) < (n : Int)) = true := by simp; omega
    clear h1
    go_enter Tryz.func3, Tryz.ntmps3
    go_wp2_with fail
    refine (alive_any _).mono ?_
    rintro e w1 ⟨rfl, hb1⟩
    go_wp2
    go_ret
    exact ⟨rfl, hb1⟩
  have d2 : decide (5 < n) = false := by simpa using h2
  have d2' : decide ((5 : Int) < (n : Int)) = false := by simp; omega
  by_cases h3 : 5 < q
  · have d3 : decide (5 < q) = true := by simpa using h3
    have d3' : decide ((5 : Int) < (q : Int)) = true := by simp; omega
    clear h1 h2
    go_enter Tryz.func3, Tryz.ntmps3
    go_wp2_with fail
    refine (alive_any _).mono ?_
    rintro e w1 ⟨rfl, hb1⟩
    go_wp2
    go_ret
    exact ⟨rfl, hb1⟩
  have d3 : decide (5 < q) = false := by simpa using h3
  have d3' : decide ((5 : Int) < (q : Int)) = false := by simp; omega
  have l1 : l.length ≤ 500 := by omega
  have l2 : n ≤ 5 := by omega
  have l3 : q ≤ 5 := by omega
  clear h1 h2 h3
  have hin : Hid (∀ W, Below w.heap.size w W → Ints W A n at') := Lib.hid fun W hW => (Hz.out (by omega)).below hW
  have hrp : Hid (∀ W, Below w.heap.size w W → Rp W B L) := Lib.hid fun W hW => (HL.out (by omega)).below hW
  obtain ⟨ok, xs, hx2, hput, href, hback⟩ := put_uni l (by omega) at'
  obtain ⟨sv, on, hget, hrget⟩ := get_uni z L (by have := HLq.out; omega)
  have Hput := Lib.hid hput
  have Href := Lib.hid href
  have Hback := Lib.hid hback
  have Hget := Lib.hid hget
  have Hrget := Lib.hid hrget
  rw [HLq.out] at Hget Hrget
  rw [← HS.out] at Hput Href Hback
  have hxr : Hid (∀ i, i < 2 → (upd (upd (fun _ => []) 0 xs) 1 xs i).length ≤ 1000000) := Lib.hid fun i hi => by
    rcases (by omega : i = 0 ∨ i = 1) with rfl | rfl
    · show xs.length ≤ _; omega
    · show xs.length ≤ _; omega
  clear hput href hback hget hrget Hz HL
  go_enter Tryz.func3, Tryz.ntmps3
  go_wp2_with fail
  refine (alive_any _).mono ?_
  rintro e w1 ⟨rfl, b1⟩
  go_wp2_with fail
  go_loopw [46] (fun i wr => ∃ k : Nat, i = .int .i64 k ∧ k ≤ q ∧ Below w.heap.size w wr) (fun i _ => q - (intOf i).toNat)
  case atStart => exact ⟨0, rfl, Nat.zero_le _, b1⟩
  case round =>
    clear b1
    obtain ⟨k, rfl, hk, b1⟩ := hrel
    by_cases hlt : k < q
    · obtain ⟨b, off, rfl, _, hc⟩ := (hrp.out _ b1).2 (by have := HLq.out; omega)
      obtain ⟨p, hp⟩ : ∃ p, L[k]? = some p := ⟨L[k]'(by have := HLq.out; omega), List.getElem?_eq_getElem _⟩
      have a0 := hc k p hp 0 (by omega)
      have a1 := hc k p hp 1 (by omega)
      have a2 := hc k p hp 2 (by omega)
      have a3 := hc k p hp 3 (by omega)
      simp only [P4.cells, Nat.add_zero, List.getElem?_cons_zero, List.getElem?_cons_succ] at a0 a1 a2 a3
      obtain ⟨x0, x1, x2, x3⟩ := p
      dsimp only at a0 a1 a2 a3
      have i1 : IntKind.i64.wrap ((k : Int) + 1) = (k : Int) + 1 := IntWalk.i64_in _ (by omega)
      clear hc hp
      by_cases h300 : 300 < x3.size
      · have e1 : decide (300 < x3.size) = true := by simpa using h300
        have e2 : decide ((300 : Int) < (x3.size : Int)) = true := by simp; omega
        go_wp2
        go_ret
        exact ⟨rfl, below_al b1 _⟩
      · have e1 : decide (300 < x3.size) = false := by simpa using h300
        have e2 : decide ((300 : Int) < (x3.size : Int)) = false := by simp; omega
        go_wp2
        go_roundw
        case rel => exact ⟨k + 1, by go_num, by omega, below_al b1 _⟩
        case measure => simp [intOf]; omega
    · obtain rfl : k = q := by omega
      have hw1 : w.heap.size ≤ wr.heap.size := b1.size
      go_wp2_with fail
      with_reducible refine (lentInts_any A n cap at' _ (hin.out _ b1) (by omega)).mono ?_
      rintro e w2 ⟨gm, cm, rfl, hcm, rm, hb⟩
      have b2 := below_base b1 b1.size hb
      have im := ints_lent rm Hat.out (by omega)
      replace rm := row_mono rm hw1
      clear hb b1 hw1
      go_wp2_with fail
      with_reducible refine (Hput.out _ _ _ _ im (by omega)).mono ?_
      rintro e w3 ⟨va, rfl, ra, hb⟩
      have b3 := below_base b2 b2.size hb
      replace im := im.below hb
      replace rm := own_below rm hb
      replace ra := row_mono ra b2.size
      obtain ⟨Aa, ca, rfl⟩ := own_slice ra
      clear hb b2
      go_wp2_with fail
      with_reducible refine (Href.out _ _ _ _ (hin.out _ b3)).mono ?_
      rintro e w4 ⟨vb, rfl, rb, hb⟩
      have b4 := below_base b3 b3.size hb
      replace im := im.below hb
      replace rm := own_below rm hb
      replace ra := own_below ra hb
      replace rb := row_mono rb b3.size
      obtain ⟨Ab, cb, rfl⟩ := own_slice rb
      clear hb b3
      go_wp2_with fail
      with_reducible refine (Hput.out _ _ _ _ im (by omega)).mono ?_
      rintro e w5 ⟨vc, rfl, rc, hb⟩
      have b5 := below_base b4 b4.size hb
      have hac : ∀ g, vc.ownBlock = some g → (Value.slice Aa xs.length ca).ownBlock ≠ some g := fun g hg h => by
        have h1 := row_ge rc g hg
        have h2 := row_lt ra g h
        omega
      replace im := im.below hb
      replace rm := own_below rm hb
      replace ra := own_below ra hb
      replace rb := own_below rb hb
      replace rc := row_mono rc b4.size
      obtain ⟨Ac, cc, rfl⟩ := own_slice rc
      have Hac := Lib.hid hac
      clear hb b4 im hac
      go_wp2_with fail
      with_reducible refine (lentPages_any B k capl L _ HLq.out.symm (hrp.out _ b5) (by omega)).mono ?_
      rintro e w6 ⟨gq, cq, rfl, hcq, rq, hb⟩
      have b6 := below_base b5 b5.size hb
      have iq := rp_lent rq HLq.out (by omega)
      replace rm := own_below rm hb
      replace ra := own_below ra hb
      replace rb := own_below rb hb
      replace rc := own_below rc hb
      replace rq := row_mono rq b5.size
      clear hb b5
      go_wp2_with fail
      with_reducible refine (Hget.out _ _ _ iq).mono ?_
      rintro e w7 ⟨rfl, hb⟩
      have b7 := below_base b6 b6.size hb
      replace rm := own_below rm hb
      replace ra := own_below ra hb
      replace rb := own_below rb hb
      replace rc := own_below rc hb
      replace rq := own_below rq hb
      clear hb b6 iq
      go_wp2_with fail
      with_reducible refine (Hrget.out _ _ _ (hrp.out _ b7)).mono ?_
      rintro e w8 ⟨rfl, hb⟩
      have b8 := below_base b7 b7.size hb
      replace rm := own_below rm hb
      replace ra := own_below ra hb
      replace rb := own_below rb hb
      replace rc := own_below rc hb
      replace rq := own_below rq hb
      have z8 := b8.size
      clear hb b7
      go_wp2_with fail
      have hk0 : BookP w.heap.size w8.heap.size 0 (w8.alloc (.cells (bcp nl nl) 46)) (tg2 w8.heap.size (.slice Aa xs.length ca) (.slice Ac xs.length cc)) (fun _ => nl) (fun _ => nl) (fun _ => []) nl nl := BookP.new z8 (heap_alloc_new w8 _) (if_pos rfl)
      with_reducible refine (Bp.add_any hk0 (.slice Aa xs.length ca) xs (ra.alloc _) (tg2_v (row_lt ra)) (by omega) (by omega)).mono ?_
      rintro e w9 ⟨rfl, o1, u1, vI1, vW1, hk9, ho1, hf1, hb⟩
      have kp : ∀ {e : TypeId} {size m : Nat} {v : Value} {ys : List Value}, w8.ownsRow w.heap.size e size v m ys → w9.ownsRow w.heap.size e size v m ys := fun h =>
        row_same (h.alloc (.cells (bcp nl nl) 46)) fun g hg => hf1 g (by have := row_lt h g hg; simp; omega) (tg2_ge (Nat.ne_of_lt (row_lt h g hg)))
      have b9 := (below_al b8 (.cells (bcp nl nl) 46)).trans hb
      have z9 : w8.heap.size ≤ w9.heap.size := by have := hb.size; simp at this; omega
      have ltm := row_lt rm
      have ltb := row_lt rb
      have ltc := row_lt rc
      have ltq := row_lt rq
      replace rm := kp rm
      replace rb := kp rb
      replace rc := kp rc
      replace rq := kp rq
      have tc : Tag o1 (.slice Ac xs.length cc) 5 := fun g hg => (ho1 g (by have := ltc g hg; simp; omega)).trans (tg2_u ltc Hac.out g hg)
      have T1 : Hid (∀ g, g < w8.heap.size → 3 ≤ o1 g) := Lib.hid fun g hg => by
        rw [ho1 g (by simp; omega)]
        exact tg2_ge (Nat.ne_of_lt hg)
      have Hk9 := Lib.hid hk9
      clear hk9 hk0 kp ho1 hf1 hb b8 ra
      go_wp2_with fail
      with_reducible refine (Bp.add_any Hk9.out (.slice Ac xs.length cc) xs rc tc (by omega) (by omega)).mono ?_
      rintro e w10 ⟨rfl, o2, u2, vI2, vW2, hk10, ho2, hf2, hb⟩
      have kp : ∀ {e : TypeId} {size m : Nat} {v : Value} {ys : List Value}, w9.ownsRow w.heap.size e size v m ys → (∀ g, v.ownBlock = some g → g < w8.heap.size) → w10.ownsRow w.heap.size e size v m ys := fun h k =>
        row_same h fun g hg => hf2 g (by have := k g hg; omega) (T1.out g (k g hg))
      have b10 := b9.trans hb
      replace rm := kp rm ltm
      replace rb := kp rb ltb
      replace rq := kp rq ltq
      have ra : w10.ownsRow w.heap.size 26 4 (.slice Aa xs.length ca) xs.length (pages xs) := hk10.rv 0 (by omega)
      have ia : Rp w10 Aa xs := by
        obtain ⟨A', c', he, h⟩ := row_rp ra
        injection he with he _ _
        rw [he]
        exact h
      have ib : Rp w10 Ab xs := by
        obtain ⟨A', c', he, h⟩ := row_rp rb
        injection he with he _ _
        rw [he]
        exact h
      have Hk10 := Lib.hid hk10
      have e1 : (ok == ok) = true := by cases ok <;> rfl
      have e2 : (on == on) = true := by cases on <;> rfl
      clear hk10 kp ho2 hf2 hb b9 ltm ltb ltc ltq rc tc T1 Hk9 rb ra
      go_wp2_with fail
      with_reducible refine (samePages_yes _ _ _ _ _ _ ia ib).mono ?_
      rintro e w11 ⟨rfl, hb⟩
      have b11 := below_base b10 b10.size hb
      replace Hk10 := Lib.hid (Hk10.out.below hb)
      replace rm := own_below rm hb
      replace rq := own_below rq hb
      replace ia := ia.below hb
      clear hb b10 ib
      go_wp2_with fail
      with_reducible refine (blobPagesI_any z _).mono ?_
      rintro e w12 ⟨rfl, rfl⟩
      go_wp2_with fail
      with_reducible refine (refPagesI_any z _).mono ?_
      rintro e w13 ⟨rfl, rfl⟩
      go_wp2_with fail
      with_reducible refine (staysInts_yes _ _ _ _ _ _ at' _ rm (hin.out _ b11) (by omega)).mono ?_
      rintro e w14 ⟨rfl, hb⟩
      have b14 := below_base b11 b11.size hb
      replace Hk10 := Lib.hid (Hk10.out.below hb)
      replace rq := own_below rq hb
      replace ia := ia.below hb
      clear hb b11 rm
      go_wp2_with fail
      with_reducible refine (staysPages_yes _ _ _ _ _ _ L _ HLq.out.symm rq (hrp.out _ b14) (by omega)).mono ?_
      rintro e w15 ⟨rfl, hb⟩
      have b15 := below_base b14 b14.size hb
      replace Hk10 := Lib.hid (Hk10.out.below hb)
      replace ia := ia.below hb
      clear hb b14 rq
      rcases ok with _ | _
      · go_wp2_with fail
        with_reducible refine (Bp.apart_any Hk10.out b15.size (by omega) hxr.out).mono ?_
        rintro e w16 ⟨rfl, hb⟩
        go_wp2
        go_ret
        exact ⟨rfl, b15.trans hb⟩
      · have h7 := Lib.hid (Hback.out rfl)
        have e3 : (s.toList == s.toList) = true := by simp
        go_wp2_with fail
        with_reducible refine (h7.out _ _ _ ia).mono ?_
        rintro e w16 ⟨rfl, hb⟩
        have b16 := below_base b15 b15.size hb
        replace Hk10 := Lib.hid (Hk10.out.below hb)
        clear hb b15 ia
        go_wp2_with fail
        with_reducible refine (Bp.apart_any Hk10.out b16.size (by omega) hxr.out).mono ?_
        rintro e w17 ⟨rfl, hb⟩
        go_wp2
        go_ret
        exact ⟨rfl, b16.trans hb⟩
theorem tells_str (s : ByteArray) (A : Option Addr) (n cap : Nat) (at' : List Int) (z : Int) (B : Option Addr) (q capl : Nat) (L : List P4) (w : World) (hz : n ≤ 1000 → Ints w A n at') (hat : at'.length = n) (hLq : L.length = q) (hL : q ≤ 1000 → Rp w B L) :
    Calls Tryz.prog 3 #[.string s, .slice A n cap, .int .i64 z, .slice B q capl] w fun e w' => e = .returned (.bool true) ∧ Below w.heap.size w w' := by
  rw [str_of s]
  exact tells_any s.data.toList A n cap at' z B q capl L w hz hat hLq hL
end Go.Proofs.YtghbgajapdkofaaGreatDoor.Bl
