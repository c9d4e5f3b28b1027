/- The law UndoTells: its walk. -/
import Derived.Test.YtlhmjmldndoekaaUndoRef
import Derived.Test.YtlhmjmldndoekaaBookApart
namespace Go.Proofs.Ytlhmjmldndoekaa.Bk
open Go.RowKit Go.Proofs.Ytlhmjmldndoekaa.Mem

theorem Book.retag {B pb n : Nat} {w : World} {o o' : Nat → Nat} {V U : Nat → Value} {X : Nat → List Int} {vI vW : Value} (h : Book B pb n w o V U X vI vW) (ho : ∀ k, k < w.heap.size → o' k = o k) : Book B pb n w o' V U X vI vW :=
  have tg : ∀ {v : Value} {t : Nat}, Tag o v t → (∀ g, v.ownBlock = some g → g < w.heap.size) → Tag o' v t := fun ht hl g hg => (ho g (hl g hg)).trans (ht g hg)
  ⟨h.hB, h.blk, h.rI, h.rW, h.rv, h.ru, (ho pb (lt_of_block h.blk)).trans h.tp, tg h.tI (row_lt h.rI), tg h.tW (row_lt h.rW), fun i hi => tg (h.tv i hi) (row_lt (h.rv i hi)), fun i hi => tg (h.tu i hi) (row_lt (h.ru i hi))⟩
theorem Book.new {B pb : Nat} {w : World} {o : Nat → Nat} (hB : B ≤ pb) (h : w.heap[pb]? = some (.cells (bcs nl nl) 45 (0, 0))) (ho : o pb = 0) : Book B pb 0 w o (fun _ => nl) (fun _ => nl) (fun _ => []) nl nl :=
  ⟨hB, h, World.ownsRow_nil _ _ _ _, World.ownsRow_nil _ _ _ _, fun i hi => absurd hi (by omega), fun i hi => absurd hi (by omega), ho, tag_nil _ _, tag_nil _ _, fun i hi => absurd hi (by omega), fun i hi => absurd hi (by omega)⟩
end Go.Proofs.Ytlhmjmldndoekaa.Bk
namespace Go.Proofs.Ytlhmjmldndoekaa.Undo
open Go.RowKit Go.Proofs.Ytlhmjmldndoekaa.Mem Go.Proofs.Ytlhmjmldndoekaa.Bk

/-- Whose the blocks are when the book is made. -/
def tg0 (kb : Nat) (v : Value) : Nat → Nat := fun k => if k = kb then 0 else if v.ownBlock = some k then 3 else 100
theorem tg0_ge {kb : Nat} {v : Value} {k : Nat} (h : k ≠ kb) : 3 ≤ tg0 kb v k := by
  unfold tg0
  rw [if_neg h]
  split <;> omega
theorem tg0_tag {kb : Nat} {v : Value} (h : ∀ g, v.ownBlock = some g → g < kb) : Tag (tg0 kb v) v 3 := fun g hg => by
  have := h g hg
  unfold tg0
  rw [if_neg (by omega), if_pos hg]

theorem post_any {B : Nat} {w w' : World} {r : Option (List Int)} {e : Ending} (h : StepsPost B w r e w') :
    ∃ v, e = .returned (.tuple #[v, .bool r.isSome]) ∧ w'.ownsRow B 3 1 v (r.getD []).length (ints (r.getD [])) ∧ Below B w w' := by
  obtain ⟨hb, _, h⟩ := h
  cases r with
  | none => exact ⟨_, h, World.ownsRow_nil _ _ _ _, hb⟩
  | some l =>
    obtain ⟨v, he, ho⟩ := h
    exact ⟨v, he, ho, hb⟩

theorem steps_len (len : Nat) (K P N : Nat → Int) (m last : Int) (h0 : 0 ≤ m) : ((all (nxt len K P N) m last).getD []).length ≤ len := by
  cases h : all (nxt len K P N) m last with
  | none => simp
  | some l =>
    show l.length ≤ len
    by_cases hm : m < last
    · by_cases hl : last ≤ len
      · have := all_length (nxt_falls len K P N) m (last - m).toNat last (by omega) l h
        omega
      · rw [all_bad hm (by unfold nxt; rw [if_neg hl])] at h
        cases h
    · rw [all_stop _ _ _ hm] at h
      injection h with h
      subst h
      simp

set_option maxRecDepth 100000 in
set_option maxHeartbeats 8000000 in
theorem tells_any (A : Option Addr) (len cap : Nat) (K P N : Nat → Int) (last down : Int) (w : World) (hr : Recs w A len K P N) :
    Calls Try.prog 3 #[.slice A len cap, .int .i64 last, .int .i64 down] w fun e w' => e = .returned (.bool true) ∧ Below w.heap.size w w' := by
  have hmf : ∀ (fn : Fn) (first cap : Array Value) (w : World), (Instr.makeFunc fn first cap).run Try.prog w = .ok (.func fn first cap) w := fun _ _ _ _ => rfl
  by_cases hl : 60 < len
  · have hl' : (60 : Int) < (len : Int) := by omega
    have hd : decide (60 < len) = true := by simpa using hl
    go_enter Try.func3, Try.ntmps3
    go_wp2_with (go_at_call 7; refine (alive_any _).mono ?_; rintro e w1 ⟨rfl, hb1⟩)
    go_ret
    exact ⟨rfl, hb1⟩
  · have hd : decide (60 < len) = false := by simpa using hl
    have hd' : decide ((60 : Int) < (len : Int)) = false := by simp; omega
    have hlen : len ≤ 60 := by omega
    clear hl
    go_enter Try.func3, Try.ntmps3
    go_wp2_with (go_at_call 7; refine (alive_any _).mono ?_; rintro e w1 ⟨rfl, hb1⟩)
    have hb2 := below_al hb1 (.cells #[.slice A len cap] 26)
    have hx2 : (w1.alloc (.cells #[.slice A len cap] 26)).heap[w1.heap.size]? = some (.cells #[.slice A len cap] 26 (0, 0)) := heap_alloc_new w1 _
    have hlogs : Hid (∀ (W : World), Below w.heap.size w W → W.heap[w1.heap.size]? = some (.cells #[.slice A len cap] 26 (0, 0)) → IsLog W ⟨w1.heap.size, 0, none⟩ len K P N) :=
      Lib.hid fun W hb hx => ⟨A, cap, by rw [cell_of_row _ _ _ _ _ _ hx]; rfl, hr.below hb⟩
    have hrecs : Hid (∀ (W : World), Below w.heap.size w W → Recs W A len K P N) := Lib.hid fun W hb => hr.below hb
    have hB1 : w.heap.size ≤ w1.heap.size := hb1.size
    generalize w1.alloc (.cells #[.slice A len cap] 26) = w2 at *
    obtain ⟨r, hrr⟩ : ∃ r, r = all (nxt len K P N) (max down 0) last := ⟨_, rfl⟩
    obtain ⟨r0, hr0⟩ : ∃ r0, r0 = all (nxt len K P N) 0 last := ⟨_, rfl⟩
    have hst : Hid (∀ (W : World), IsLog W ⟨w1.heap.size, 0, none⟩ len K P N → Calls Try.prog 8 #[.func (.func 9) #[.pointer (some ⟨w1.heap.size, 0, none⟩)] #[], .int .i64 last, .int .i64 down] W fun e W' => ∃ v, e = .returned (.tuple #[v, .bool r.isSome]) ∧ W'.ownsRow W.heap.size 3 1 v (r.getD []).length (ints (r.getD [])) ∧ Below W.heap.size W W') :=
      Lib.hid fun W h => by
        have h1 := steps_any _ len K P N last down W h (by omega)
        rw [← hrr] at h1
        exact h1.mono fun e W' hp => post_any hp
    have hrf : Hid (∀ (W : World), Recs W A len K P N → Calls Try.prog 10 #[.slice A len cap, .int .i64 last, .int .i64 down] W fun e W' => ∃ v, e = .returned (.tuple #[v, .bool r.isSome]) ∧ W'.ownsRow W.heap.size 3 1 v (r.getD []).length (ints (r.getD [])) ∧ Below W.heap.size W W') :=
      Lib.hid fun W h => by
        have h1 := ref_any A len cap K P N last down W h (by omega)
        rw [← hrr] at h1
        exact h1.mono fun e W' hp => post_any hp
    have hrf0 : Hid (∀ (W : World), Recs W A len K P N → Calls Try.prog 10 #[.slice A len cap, .int .i64 last, .int .i64 0] W fun e W' => ∃ v, e = .returned (.tuple #[v, .bool r0.isSome]) ∧ W'.ownsRow W.heap.size 3 1 v (r0.getD []).length (ints (r0.getD [])) ∧ Below W.heap.size W W') :=
      Lib.hid fun W h => by
        have h1 := ref_any A len cap K P N last 0 W h (by omega)
        rw [show max (0 : Int) 0 = 0 from rfl, ← hr0] at h1
        exact h1.mono fun e W' hp => post_any hp
    have hnx : Hid (∀ (W : World), IsLog W ⟨w1.heap.size, 0, none⟩ len K P N → Calls Try.prog 11 #[.func (.func 9) #[.pointer (some ⟨w1.heap.size, 0, none⟩)] #[], .int .i64 last] W fun e W' => e = .returned (.tuple #[.int .i64 (headOf r0), .bool r0.isSome]) ∧ Below W.heap.size W W') :=
      Lib.hid fun W h => by
        have h1 := next_any _ len K P N last W h (by omega)
        rw [← hr0] at h1
        exact h1
    have hxl : (r.getD []).length ≤ 1000000 := by
      have h1 := steps_len len K P N (max down 0) last (by omega)
      rw [← hrr] at h1
      omega
    generalize hxs : r.getD [] = xs at *
    generalize hys : r0.getD [] = ys at *
    generalize hok : r.isSome = ok at *
    obtain ⟨hd, inn, hhd, hinn, hcase⟩ : ∃ hd inn, headOf r0 = hd ∧ r0.isSome = inn ∧ ((inn = false ∧ hd = 0) ∨ (inn = true ∧ ys = [] ∧ hd = 0) ∨ (inn = true ∧ ∃ t, ys = hd :: t)) := by
      rw [← hys]
      rcases r0 with _ | _ | ⟨y, t⟩
      · exact ⟨_, _, rfl, rfl, .inl ⟨rfl, rfl⟩⟩
      · exact ⟨_, _, rfl, rfl, .inr (.inl ⟨rfl, rfl, rfl⟩)⟩
      · exact ⟨_, _, rfl, rfl, .inr (.inr ⟨rfl, t, rfl⟩)⟩
    rw [hhd, hinn] at hnx
    rw [hinn] at hrf0
    have Hcase := Lib.hid hcase
    clear hr hrr hr0 hxs hok hys hhd hinn hcase
    refine (hst.out _ (hlogs.out _ hb2 hx2)).mono ?_
    rintro e w3 ⟨va, rfl, ra, hb3⟩
    have hx3 := blk_keep hx2 hb3
    have b3 := below_base hb2 hb2.size hb3
    have hB2 : w.heap.size ≤ w2.heap.size := hb2.size
    clear hx2 hb2 hb1
    go_wp2_with fail
    refine (hrf.out _ (hrecs.out _ b3)).mono ?_
    rintro e w4 ⟨vb, rfl, rb, hb4⟩
    have hx4 := blk_keep hx3 hb4
    have b4 := below_base b3 b3.size hb4
    have ra4 := own_below ra hb4
    clear hx3 b3 ra
    go_wp2_with fail
    refine (hnx.out _ (hlogs.out _ b4 hx4)).mono ?_
    rintro e w5 ⟨rfl, hb5⟩
    have hx5 := blk_keep hx4 hb5
    have b5 := below_base b4 b4.size hb5
    have ra5 := own_below ra4 hb5
    have rb5 := own_below rb hb5
    clear hx4 b4 ra4 rb
    go_wp2_with fail
    refine (hrf0.out _ (hrecs.out _ b5)).mono ?_
    rintro e w6 ⟨vc, rfl, rc, hb6⟩
    have hx6 := blk_keep hx5 hb6
    have b6 := below_base b5 b5.size hb6
    have ra6 := own_below ra5 hb6
    have rb6 := own_below rb5 hb6
    obtain ⟨Aa, ca, rfl⟩ := own_slice ra6
    obtain ⟨Ab, cb, rfl⟩ := own_slice rb6
    obtain ⟨Ac, cc, rfl⟩ := own_slice rc
    clear hx5 b5 ra5 rb5
    have hB6 : w.heap.size ≤ w6.heap.size := b6.size
    have hX2 : ∀ i, i < 2 → (upd (upd (fun _ => []) 0 xs) 1 xs i).length ≤ 1000000 := fun i hi => by
      rcases (by omega : i = 0 ∨ i = 1) with rfl | rfl
      · exact hxl
      · exact hxl
    rcases Hcase.out with ⟨rfl, rfl⟩ | ⟨rfl, rfl, rfl⟩ | ⟨rfl, t, rfl⟩
    · clear Hcase
      go_wp2_with fail
      have hk0 : Book w.heap.size w6.heap.size 0 (w6.alloc (.cells (bcs nl nl) 45)) (tg0 w6.heap.size (.slice Aa xs.length ca)) (fun _ => nl) (fun _ => nl) (fun _ => []) nl nl := Book.new hB6 (heap_alloc_new w6 _) (if_pos rfl)
      refine (add_any hk0 (.slice Aa xs.length ca) xs ((row_mono ra6 hB2).alloc _) (tg0_tag (row_lt ra6)) (by omega) hxl).mono ?_
      rintro e w7 ⟨rfl, o1, u1, vI1, vW1, hk1, ho1, hf1, hb7⟩
      have hx7 := (hf1 _ (lt_of_block (hal hx6)) (tg0_ge (Nat.ne_of_lt (lt_of_block hx6)))).trans (hal hx6)
      have rb7 : w7.ownsRow _ _ _ _ _ _ := row_same (rb6.alloc (.cells (bcs nl nl) 45)) (fun g hg => hf1 g (by have := row_lt rb6 g hg; simp; omega) (tg0_ge (Nat.ne_of_lt (row_lt rb6 g hg))))
      have hrb := row_lt rb6
      have h67 : w6.heap.size ≤ w7.heap.size := by have := hb7.size; simp at this; omega
      have b7 := (below_al b6 (.cells (bcs nl nl) 45)).trans hb7
      have Hk1 := Lib.hid hk1
      clear hx6 rb6 hb7 hk0 hk1
      go_wp2_with fail
      refine (hst.out _ (hlogs.out _ b7 hx7)).mono ?_
      rintro e w8 ⟨vd, rfl, rd, hb8⟩
      have hk8 := (Hk1.out.retag (o' := ext o1 w7.heap.size 5) (fun k h => ext_lt h)).below hb8
      have b8 := below_base b7 b7.size hb8
      have td : Tag (ext o1 w7.heap.size 5) vd 5 := tag_new _ _ _ (row_ge rd)
      have rd8 := row_mono rd (B := w.heap.size) b7.size
      have rb8 := own_below rb7 hb8
      clear hx7 Hk1
      go_wp2_with fail
      refine (add_any hk8 vd xs rd8 td (by omega) hxl).mono ?_
      rintro e w9 ⟨rfl, o2, u2, vI2, vW2, hk9, ho9, hf9, hb9⟩
      have rb9 : w9.ownsRow _ _ _ _ _ _ := row_same rb8 (fun g hg => hf9 g (row_lt rb8 g hg) (by
        have h1 := hrb g hg
        rw [ext_lt (by omega), ho1 g (by simp; omega)]
        exact tg0_ge (Nat.ne_of_lt h1)))
      have b9 := b8.trans hb9
      have ra9 : w9.ownsRow w.heap.size 3 1 (.slice Aa xs.length ca) xs.length (ints xs) := hk9.rv 0 (by omega)
      have iA := Rd.of ra9
      have iB := Rd.of rb9
      have ia : Ints w9 Aa xs.length xs := by
        obtain ⟨A', c', he, h⟩ := ints_of_own ra9
        injection he with he _ _
        rw [he]
        exact h
      have ib : Ints w9 Ab xs.length xs := by
        obtain ⟨A', c', he, h⟩ := ints_of_own rb9
        injection he with he _ _
        rw [he]
        exact h
      have Hk9 := Lib.hid hk9
      have e1 : (ok == ok) = true := by cases ok <;> rfl
      clear hk9 hk8 rd8 rd td rb9 rb8 rb7 ra9 iA iB hb9 hb8 b8 b7 hf9 ho9 hf1 ho1
      go_wp2_with fail
      refine (sameInts_any _ _ _ _ _ _ _ _ _ ia ib).mono ?_
      rintro e w10 ⟨rfl, hb10⟩
      rw [decide_eq_true rfl]
      have b10 := below_base b9 b9.size hb10
      have Hk10 := Lib.hid (Hk9.out.below hb10)
      clear Hk9 ia ib hb10 b9
      go_wp2_with fail
      refine (apart_any Hk10.out b10.size (by omega) hX2).mono ?_
      rintro e w11 ⟨rfl, hb11⟩
      go_wp2
      go_ret
      exact ⟨rfl, b10.trans hb11⟩
    · clear Hcase
      go_wp2_with fail
      have hk0 : Book w.heap.size w6.heap.size 0 (w6.alloc (.cells (bcs nl nl) 45)) (tg0 w6.heap.size (.slice Aa xs.length ca)) (fun _ => nl) (fun _ => nl) (fun _ => []) nl nl := Book.new hB6 (heap_alloc_new w6 _) (if_pos rfl)
      refine (add_any hk0 (.slice Aa xs.length ca) xs ((row_mono ra6 hB2).alloc _) (tg0_tag (row_lt ra6)) (by omega) hxl).mono ?_
      rintro e w7 ⟨rfl, o1, u1, vI1, vW1, hk1, ho1, hf1, hb7⟩
      have hx7 := (hf1 _ (lt_of_block (hal hx6)) (tg0_ge (Nat.ne_of_lt (lt_of_block hx6)))).trans (hal hx6)
      have rb7 : w7.ownsRow _ _ _ _ _ _ := row_same (rb6.alloc (.cells (bcs nl nl) 45)) (fun g hg => hf1 g (by have := row_lt rb6 g hg; simp; omega) (tg0_ge (Nat.ne_of_lt (row_lt rb6 g hg))))
      have hrb := row_lt rb6
      have h67 : w6.heap.size ≤ w7.heap.size := by have := hb7.size; simp at this; omega
      have b7 := (below_al b6 (.cells (bcs nl nl) 45)).trans hb7
      have Hk1 := Lib.hid hk1
      clear hx6 rb6 hb7 hk0 hk1
      go_wp2_with fail
      refine (hst.out _ (hlogs.out _ b7 hx7)).mono ?_
      rintro e w8 ⟨vd, rfl, rd, hb8⟩
      have hk8 := (Hk1.out.retag (o' := ext o1 w7.heap.size 5) (fun k h => ext_lt h)).below hb8
      have b8 := below_base b7 b7.size hb8
      have td : Tag (ext o1 w7.heap.size 5) vd 5 := tag_new _ _ _ (row_ge rd)
      have rd8 := row_mono rd (B := w.heap.size) b7.size
      have rb8 := own_below rb7 hb8
      clear hx7 Hk1
      go_wp2_with fail
      refine (add_any hk8 vd xs rd8 td (by omega) hxl).mono ?_
      rintro e w9 ⟨rfl, o2, u2, vI2, vW2, hk9, ho9, hf9, hb9⟩
      have rb9 : w9.ownsRow _ _ _ _ _ _ := row_same rb8 (fun g hg => hf9 g (row_lt rb8 g hg) (by
        have h1 := hrb g hg
        rw [ext_lt (by omega), ho1 g (by simp; omega)]
        exact tg0_ge (Nat.ne_of_lt h1)))
      have b9 := b8.trans hb9
      have ra9 : w9.ownsRow w.heap.size 3 1 (.slice Aa xs.length ca) xs.length (ints xs) := hk9.rv 0 (by omega)
      have iA := Rd.of ra9
      have iB := Rd.of rb9
      have ia : Ints w9 Aa xs.length xs := by
        obtain ⟨A', c', he, h⟩ := ints_of_own ra9
        injection he with he _ _
        rw [he]
        exact h
      have ib : Ints w9 Ab xs.length xs := by
        obtain ⟨A', c', he, h⟩ := ints_of_own rb9
        injection he with he _ _
        rw [he]
        exact h
      have Hk9 := Lib.hid hk9
      have e1 : (ok == ok) = true := by cases ok <;> rfl
      clear hk9 hk8 rd8 rd td rb9 rb8 rb7 ra9 iA iB hb9 hb8 b8 b7 hf9 ho9 hf1 ho1
      go_wp2_with fail
      refine (sameInts_any _ _ _ _ _ _ _ _ _ ia ib).mono ?_
      rintro e w10 ⟨rfl, hb10⟩
      rw [decide_eq_true rfl]
      have b10 := below_base b9 b9.size hb10
      have Hk10 := Lib.hid (Hk9.out.below hb10)
      clear Hk9 ia ib hb10 b9
      go_wp2_with fail
      refine (apart_any Hk10.out b10.size (by omega) hX2).mono ?_
      rintro e w11 ⟨rfl, hb11⟩
      go_wp2
      go_ret
      exact ⟨rfl, b10.trans hb11⟩
    · clear Hcase
      obtain ⟨gc, cc', hec, _, _⟩ := rc.form (by simp)
      injection hec with h1 _ h2
      subst h1
      have c0 := own_at rc 0 (.int .i64 hd) (by simp [ints])
      have hln : ¬ ((hd :: t).length = 0) := by simp
      have hl0 : (0 : Int) < ((hd :: t).length : Int) := by simp only [List.length_cons]; omega
      generalize (hd :: t).length = ml at *
      go_wp2_with fail
      have hk0 : Book w.heap.size w6.heap.size 0 (w6.alloc (.cells (bcs nl nl) 45)) (tg0 w6.heap.size (.slice Aa xs.length ca)) (fun _ => nl) (fun _ => nl) (fun _ => []) nl nl := Book.new hB6 (heap_alloc_new w6 _) (if_pos rfl)
      refine (add_any hk0 (.slice Aa xs.length ca) xs ((row_mono ra6 hB2).alloc _) (tg0_tag (row_lt ra6)) (by omega) hxl).mono ?_
      rintro e w7 ⟨rfl, o1, u1, vI1, vW1, hk1, ho1, hf1, hb7⟩
      have hx7 := (hf1 _ (lt_of_block (hal hx6)) (tg0_ge (Nat.ne_of_lt (lt_of_block hx6)))).trans (hal hx6)
      have rb7 : w7.ownsRow _ _ _ _ _ _ := row_same (rb6.alloc (.cells (bcs nl nl) 45)) (fun g hg => hf1 g (by have := row_lt rb6 g hg; simp; omega) (tg0_ge (Nat.ne_of_lt (row_lt rb6 g hg))))
      have hrb := row_lt rb6
      have h67 : w6.heap.size ≤ w7.heap.size := by have := hb7.size; simp at this; omega
      have b7 := (below_al b6 (.cells (bcs nl nl) 45)).trans hb7
      have Hk1 := Lib.hid hk1
      clear hx6 rb6 hb7 hk0 hk1
      go_wp2_with fail
      refine (hst.out _ (hlogs.out _ b7 hx7)).mono ?_
      rintro e w8 ⟨vd, rfl, rd, hb8⟩
      have hk8 := (Hk1.out.retag (o' := ext o1 w7.heap.size 5) (fun k h => ext_lt h)).below hb8
      have b8 := below_base b7 b7.size hb8
      have td : Tag (ext o1 w7.heap.size 5) vd 5 := tag_new _ _ _ (row_ge rd)
      have rd8 := row_mono rd (B := w.heap.size) b7.size
      have rb8 := own_below rb7 hb8
      clear hx7 Hk1
      go_wp2_with fail
      refine (add_any hk8 vd xs rd8 td (by omega) hxl).mono ?_
      rintro e w9 ⟨rfl, o2, u2, vI2, vW2, hk9, ho9, hf9, hb9⟩
      have rb9 : w9.ownsRow _ _ _ _ _ _ := row_same rb8 (fun g hg => hf9 g (row_lt rb8 g hg) (by
        have h1 := hrb g hg
        rw [ext_lt (by omega), ho1 g (by simp; omega)]
        exact tg0_ge (Nat.ne_of_lt h1)))
      have b9 := b8.trans hb9
      have ra9 : w9.ownsRow w.heap.size 3 1 (.slice Aa xs.length ca) xs.length (ints xs) := hk9.rv 0 (by omega)
      have iA := Rd.of ra9
      have iB := Rd.of rb9
      have ia : Ints w9 Aa xs.length xs := by
        obtain ⟨A', c', he, h⟩ := ints_of_own ra9
        injection he with he _ _
        rw [he]
        exact h
      have ib : Ints w9 Ab xs.length xs := by
        obtain ⟨A', c', he, h⟩ := ints_of_own rb9
        injection he with he _ _
        rw [he]
        exact h
      have Hk9 := Lib.hid hk9
      have e1 : (ok == ok) = true := by cases ok <;> rfl
      clear hk9 hk8 rd8 rd td rb9 rb8 rb7 ra9 iA iB hb9 hb8 b8 b7 hf9 ho9 hf1 ho1
      go_wp2_with fail
      refine (sameInts_any _ _ _ _ _ _ _ _ _ ia ib).mono ?_
      rintro e w10 ⟨rfl, hb10⟩
      rw [decide_eq_true rfl]
      have b10 := below_base b9 b9.size hb10
      have Hk10 := Lib.hid (Hk9.out.below hb10)
      clear Hk9 ia ib hb10 b9
      go_wp2_with fail
      refine (apart_any Hk10.out b10.size (by omega) hX2).mono ?_
      rintro e w11 ⟨rfl, hb11⟩
      go_wp2
      go_ret
      exact ⟨rfl, b10.trans hb11⟩
end Go.Proofs.Ytlhmjmldndoekaa.Undo
