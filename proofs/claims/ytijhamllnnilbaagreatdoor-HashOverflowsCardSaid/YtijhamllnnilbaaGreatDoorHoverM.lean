/- HashOverflows: the walk. -/
import Derived.Test.YtijhamllnnilbaaGreatDoorM44
import Derived.Test.YtijhamllnnilbaaGreatDoorM40
import Derived.Test.YtijhamllnnilbaaGreatDoorHovMM
namespace Go.Proofs.YtijhamllnnilbaaGreatDoor.Ha
open Go.RowKit Go.Proofs.YtijhamllnnilbaaGreatDoor.Mem Go.Proofs.YtijhamllnnilbaaGreatDoor.Pg Go.Proofs.YtijhamllnnilbaaGreatDoor.Kp Go.Proofs.YtijhamllnnilbaaGreatDoor.Sp Go.Proofs.YtijhamllnnilbaaGreatDoor.Gr
set_option linter.unusedSimpArgs false
set_option linter.unusedVariables false
/-- A list of texts that was handed in. -/
def Txts (w : World) (A : Option Addr) (n : Nat) (T : Nat → List UInt8) : Prop :=
  (∀ j, j < n → (str (T j)).size ≤ maxLen) ∧ (0 < n → ∃ b off, A = some ⟨b, off, none⟩ ∧ b < w.heap.size ∧ ∀ j, j < n → w.cell? ⟨b, off + j, none⟩ = some (.string (str (T j))))
theorem Txts.below {w w1 : World} {A : Option Addr} {n : Nat} {T : Nat → List UInt8} (h : Txts w A n T) (hb : Below w.heap.size w w1) : Txts w1 A n T :=
  ⟨h.1, fun h0 => by
    obtain ⟨b, off, hA, hlt, hc⟩ := h.2 h0
    exact ⟨b, off, hA, Nat.lt_of_lt_of_le hlt hb.size, fun j hj => (hb.cell hlt).trans (hc j hj)⟩⟩
theorem free_st {w0 w : World} {gb mb sb qb c n D : Nat} {pg : Nat → Pag} {t : Tri} {ml : List UInt8} {tk0 : Int} (h : St w0 w gb mb sb qb c n pg D t ml [] tk0) :
    ∃ f : Nat, f + 2 + (numsF t.leaves).length = n ∧ Calls Tryz.prog 29 #[.pointer (some ⟨gb, 0, none⟩)] w fun e w' => e = .returned (.int .i64 (f : Nat)) ∧ Below w.heap.size w w' := by
  obtain ⟨md, mx, hp⟩ := h.hs.map
  have h1 := free_len h.hs
  simp only [List.length_nil, Nat.add_zero] at h1
  exact ⟨_, h1, h.gv.free hp h.hs.is⟩
theorem free_at {w0 w : World} {gb mb sb qb c n D f : Nat} {pg : Nat → Pag} {t : Tri} {ml : List UInt8} {tk0 : Int} (h : St w0 w gb mb sb qb c n pg D t ml [] tk0) (hf : f + 2 + (numsF t.leaves).length = n) :
    Calls Tryz.prog 29 #[.pointer (some ⟨gb, 0, none⟩)] w fun e w' => e = .returned (.int .i64 (f : Nat)) ∧ Below w.heap.size w w' ∧ St w0 w' gb mb sb qb c n pg D t ml [] tk0 := by
  obtain ⟨f', h1, h2⟩ := free_st h
  obtain rfl : f' = f := by omega
  exact h2.mono fun e w' ⟨he, hb⟩ => ⟨he, hb, h.gv.below hb, h.hs⟩
theorem Ov.inl {n D : Nat} {pg : Nat → Pag} {t : Tri} {J : List (List UInt8)} (h : Ov t J) (T : Tb n pg D t) : AllIn t := fun b hb x hx => by
  have h1 := look_mem T hb hx
  rw [h.look] at h1
  by_cases e : x.key ∈ J
  · rw [if_pos e] at h1
    injection h1 with h1
    rw [← h1]; rfl
  · rw [if_neg e] at h1; cases h1
theorem Ov.cut_nums {t : Tri} {J : List (List UInt8)} (h : Ov t J) (k : List UInt8) : (numsF (cutT k t).leaves).length ≤ 8 := by
  have h8 := h.pgs
  obtain ⟨b, rfl⟩ := h.leaf
  have e : cutT k (.leaf b) = .leaf (lfOf (cutP k b.pgs)) := rfl
  have hpos : 0 < b.pgs.length := Nat.succ_pos _
  have h9 : b.pgs.length ≤ 8 := h8
  rw [e]
  show (numsF [lfOf (cutP k b.pgs)]).length ≤ 8
  simp [numsF, Lf.nums, lfOf_pgs (List.ne_nil_of_length_pos (show 0 < (cutP k b.pgs).length by rw [cutP_len]; exact hpos)), cutP_len]
  exact h9
theorem over_set (w0 W : World) (gb mb sb qb c : Nat) (pg : Nat → Pag) (t : Tri) (ml : List UInt8) (J : List (List UInt8)) (k : List UInt8) (h : St w0 W gb mb sb qb c 64 pg 0 t ml [] (-1)) (ho : Ov t J) (hJ : J.length ≤ 80) (hk : keyOk k) :
    Calls Tryz.prog 18 #[.pointer (some ⟨gb, 0, none⟩), .agg #[.string (str k), .string { data := #[118] }, .int .i64 0, .int .i64 0], .bool false] W fun e w' => e = .returned (.int .i64 0) ∧
      (∃ pg' t' ml', St w0 w' gb mb sb qb c 64 pg' 0 t' ml' [] (-1) ∧ Ov t' (k :: J) ∧ ((numsF t'.leaves).length = (numsF t.leaves).length ∨ (numsF t'.leaves).length = (numsF t.leaves).length + 1)) ∧ Wk w0.heap.size gb mb W w' := by
  have hx : (celV k).ok := (Cel.ok_iff _).2 ⟨hk, .inl ⟨rfl, by show 1 ≤ 40; omega, rfl⟩⟩
  refine (set_ok w0 W gb mb sb qb c 64 0 pg t ml [] (-1) (celV k) false h hx (by omega) (fun e => by cases e)).mono ?_
  rintro e w' ⟨hp, hw⟩
  rcases hp with ⟨rfl, pg', D', t', ml', hs, hso, hl, hd⟩ | ⟨_, pg', D', t', ml', hs, hg, hn, hT⟩
  · rcases hd with rfl | ⟨hd, _⟩
    · have h1 := ho.step h.hs hJ k hk hso hl
      exact ⟨rfl, ⟨pg', t', ml', hs, h1.1, h1.2⟩, hw⟩
    · cases hd
  · have e1 := grown_no hg
    subst e1
    have h1 := (take_free hs.hs).1 hT
    have h2 := ho.cut_nums k
    have h3 : (numsF (cutT (celV k).key t).leaves).length ≤ 8 := h2
    simp only [List.length_nil] at h1
    omega
theorem over_get (w0 W : World) (gb mb sb qb c : Nat) (pg : Nat → Pag) (t : Tri) (ml : List UInt8) (J : List (List UInt8)) (k : List UInt8) (h : St w0 W gb mb sb qb c 64 pg 0 t ml [] (-1)) (ho : Ov t J) (hj : k ∈ J) (hk : keyOk k) :
    Calls Tryz.prog 25 #[.pointer (some ⟨gb, 0, none⟩), .string (str k)] W fun e w' => e = .returned (.tuple #[.agg #[.string (str k), .string { data := #[118] }, .int .i64 0, .int .i64 0], .int .i64 0]) ∧
      St w0 w' gb mb sb qb c 64 pg 0 t ml [] (-1) ∧ Below W.heap.size W w' := by
  have h1 := get_ok w0 W gb mb sb qb c 64 0 pg _ t k h.gv h.hs.tb
  have h2 : lookF k (t.at' (sumF k)).cells = some (celV k) := by
    have h3 := ho.look k
    rw [if_pos hj] at h3
    exact h3
  rw [if_pos hk, getRes_yes h2] at h1
  refine h1.mono ?_
  rintro e w' ⟨rfl, hg, hr⟩
  exact ⟨rfl, ⟨hg, h.hs⟩, hr.bel⟩
set_option maxRecDepth 100000 in
set_option maxHeartbeats 8000000 in
theorem over_any (A : Option Addr) (n cp : Nat) (T : Nat → List UInt8) (w : World) (ht : Tab w) (hn64 : n ≤ maxLen) (hT : Txts w A n T) :
    Calls Tryz.prog 6 #[.slice A n cp] w fun e w' => e = .returned (.bool true) ∧ Below w.heap.size w w' := by
  have Hal := Lib.hid (fun W (k : Tab W) => alive_any W k)
  have Ht := Lib.hid ht
  have HT := Lib.hid hT
  clear ht hT
  by_cases hlong : 80 < n
  · have h1I : (80 : Int) < (n : Int) := by omega
    go_enter Tryz.func6, Tryz.ntmps6
    go_wp2_with fail
    with_reducible refine (Hal.out _ Ht.out).mono ?_
    rintro e w1 ⟨rfl, hb1⟩
    have B1 := Lib.hid hb1
    clear hb1
    go_wp2_with fail
    go_ret
    exact ⟨rfl, B1.out⟩
  · have h1I : ¬ (80 : Int) < (n : Int) := by omega
    have hnew : ∀ W, Tab W → Calls Tryz.prog 14 #[.int .i64 64] W fun e w' => ∃ sb qb c, e = .returned (.pointer (some ⟨sb, 0, none⟩)) ∧ W.heap.size ≤ sb ∧ W.heap.size ≤ qb ∧ Below W.heap.size W w' ∧ Sto w' sb qb 64 c (-1) (bnew 64 3) := fun W h => newT_any 64 W h (by omega) (by omega)
    have hmk : ∀ W : World, (Instr.makeMap 60 none).run Tryz.prog W = .ok (.map (some W.heap.size)) (W.alloc (.map #[] 0)) := fun W => run_makeMap _ W
    have Hnew := Lib.hid hnew
    clear hnew
    go_enter Tryz.func6, Tryz.ntmps6
    go_wp2_with fail
    with_reducible refine (Hal.out _ Ht.out).mono ?_
    rintro e wz ⟨rfl, hbz⟩
    have Tz := Lib.hid (Ht.out.below hbz)
    have Bz0 := Lib.hid hbz
    clear hbz
    go_wp2_with fail
    with_reducible refine (Hnew.out _ Tz.out).mono ?_
    rintro e w1 ⟨sb, qb, c, rfl, hsb, hqb, hb1, hs1⟩
    have T1 := Lib.hid (Tz.out.below hb1)
    have S1 := Lib.hid hs1
    have B1 := Lib.hid (below_base Bz0.out Bz0.out.size hb1)
    clear hs1 hb1 Hnew
    go_wp2_with fail
    with_reducible refine (newG_any w w1 64 sb qb c (bnew 64 3) (pgNew 64) T1.out S1.out (fun i _ => bnew_shows 64 i) B1.out).mono ?_
    rintro e w2 ⟨gb, mb, rfl, hgv, hgb, hmb, hb2⟩
    have S2 : Hid (St w w2 gb mb sb qb c 64 (pgNew 64) 0 t00 (fmtL 64) [] (-1)) := Lib.hid ⟨hgv, hs_new 64 (by omega) (by omega)⟩
    have B2 := Lib.hid (below_base B1.out B1.out.size hb2)
    clear hgv hb2 hsb hqb hgb hmb
    obtain ⟨f0, hf0, hfree0⟩ := free_st S2.out
    have F0 := Lib.hid hf0
    clear hf0
    go_wp2_with fail
    with_reducible refine hfree0.mono ?_
    rintro e w3 ⟨rfl, hb3⟩
    have BB3 := below_al hb3 (.map #[] 0)
    have S3 : Hid (St w (w3.alloc (.map #[] 0)) gb mb sb qb c 64 (pgNew 64) 0 t00 (fmtL 64) [] (-1)) := Lib.hid ⟨S2.out.gv.below BB3, S2.out.hs⟩
    have B3 := Lib.hid (below_base B2.out B2.out.size BB3)
    have M3 := Lib.hid (KSub.made w3)
    have HB0 : Hid (gb < w3.heap.size ∧ mb < w3.heap.size ∧ sb < w3.heap.size ∧ qb < w3.heap.size ∧ gtab < w3.heap.size ∧ w.heap.size ≤ w3.heap.size) := Lib.hid (by
      have h1 := S2.out.gv.lt
      have h2 := S2.out.gv.ord
      have h3 := hb3.size
      have h4 := B2.out.size
      omega)
    obtain ⟨hb, hhb⟩ : ∃ hb, hb = w3.heap.size := ⟨_, rfl⟩
    rw [← hhb] at M3 HB0
    have Ov0 : Hid (Ov t00 []) := Lib.hid Ov.new
    have TX : Hid (Txts (w3.alloc (.map #[] 0)) A n T) := Lib.hid (by
      refine ⟨HT.out.1, fun h0 => ?_⟩
      obtain ⟨b, off, hA, hlt, hc⟩ := HT.out.2 h0
      exact ⟨b, off, hA, Nat.lt_of_lt_of_le hlt B3.out.size, fun j hj => (B3.out.cell hlt).trans (hc j hj)⟩)
    clear hfree0 hb3 BB3
    go_wp2_with fail
    rw [← hhb]
    clear hhb hmk
    go_loopw [5, 32] (fun v5 v32 wr => ∃ (k f : Nat) (t : Tri) (ml : List UInt8) (pg : Nat → Pag) (J : List (List UInt8)), v5 = .int .i64 (f : Nat) ∧ v32 = .int .i64 (k : Nat) ∧ k ≤ n ∧ Hid (f + 2 + (numsF t.leaves).length = 64) ∧ Hid (J.length = k) ∧ Hid (Ov t J) ∧ Hid (∀ q, q ∈ J → keyOk q) ∧ Hid (St w wr gb mb sb qb c 64 pg 0 t ml [] (-1)) ∧ Hid (KSub wr hb k J) ∧ Hid (Below w.heap.size w wr)) (fun _ v32 _ => n - (intOf v32).toNat)
    case atStart => exact ⟨0, f0, t00, fmtL 64, pgNew 64, [], rfl, rfl, Nat.zero_le _, F0, Lib.hid rfl, Ov0, Lib.hid (fun q hq => by cases hq), S3, M3, B3⟩
    case round =>
      clear F0 Ov0 S3 M3 B3 S2 B2 S1 B1 T1 Tz Bz0 TX
      obtain ⟨k, f, t, ml, pg, J, rfl, rfl, hk, F1, J1, O1, K1, S4, M4, B4⟩ := hrel
      by_cases hlt : k < n
      · have hkI : (k : Int) < (n : Int) := by omega
        have i1 : IntKind.i64.wrap ((k : Int) + 1) = (k : Int) + 1 := IntWalk.i64_in _ (by omega)
        obtain ⟨kb, ko, hA, hkb, hc⟩ := HT.out.2 (by omega)
        subst hA
        have cK := (B4.out.cell hkb).trans (hc k hlt)
        have hkey := fun W => key_any (T k) W
        have hset := fun (hko : keyOk (T k)) W (hW : St w W gb mb sb qb c 64 pg 0 t ml [] (-1)) => over_set w W gb mb sb qb c pg t ml J (T k) hW O1.out (by have := J1.out; omega) hko
        have hmu : ∀ W, KSub W hb k J → ∃ w', (Instr.mapUpdate 60 (.map (some hb)) (.string (str (T k))) (.bool true)).run Tryz.prog W = .ok () w' ∧ KSub w' hb (k + 1) (T k :: J) ∧ W.grownBy w' (some hb) := fun W hW => hW.put (T k) (HT.out.1 k hlt) (by omega)
        obtain ⟨U, hU⟩ : ∃ U, U = str (T k) := ⟨_, rfl⟩
        rw [← hU] at cK hmu
        simp only [← hU] at hkey hset
        have Hkey := Lib.hid hkey
        have Hset := Lib.hid hset
        have Hmu := Lib.hid hmu
        have B4' := B4.out.size
        clear hU hc hkey hset hmu
        go_wp2_with fail
        with_reducible refine (Hkey.out _).mono ?_
        rintro e w5 ⟨rfl, rfl⟩
        by_cases hko : keyOk (T k)
        · rw [decide_eq_true hko]
          have hst := Hset.out hko _ S4.out
          have HKO := Lib.hid hko
          clear Hset hko
          go_wp2_with fail
          with_reducible refine hst.mono ?_
          rintro e w6 ⟨rfl, ⟨pg', t', ml', st6, ov6, hnn⟩, wk6⟩
          obtain ⟨f', hf'⟩ : ∃ f', f' + 2 + (numsF t'.leaves).length = 64 := by
            obtain ⟨f', h1, _⟩ := free_st st6
            exact ⟨f', h1⟩
          have g1 : ¬ (f : Int) < (f' : Int) := by have := F1.out; omega
          have g2 : ¬ (f' : Int) < (f : Int) - 1 := by have := F1.out; omega
          have g3 : IntKind.i64.wrap ((f : Int) - 1) = (f : Int) - 1 := IntWalk.i64_in _ (by have := F1.out; omega)
          have hfr := free_at st6 hf'
          have KK : Hid (w6.heap[hb]? = w5.heap[hb]?) := Lib.hid (wk6.keep.block _ M4.out.lt (fun h => by have := HB0.out; omega))
          have M6 : Hid (KSub w6 hb k J) := Lib.hid (M4.out.block KK.out)
          have B6 := Lib.hid (below_keep B4.out B4.out.size wk6.keep (by have := S4.out.gv.ord; rintro i (rfl | rfl) <;> omega))
          have OV6 := Lib.hid ov6
          have HF := Lib.hid hf'
          have hfr2 := fun W (hW : St w W gb mb sb qb c 64 pg' 0 t' ml' [] (-1)) => free_at hW HF.out
          have Hfr := Lib.hid hfr2
          clear st6 ov6 hnn wk6 KK hst hf' hfr2 S4 M4 B4 cK B4' F1
          go_wp2_with fail
          with_reducible refine hfr.mono ?_
          rintro e w7 ⟨rfl, hb7, st7⟩
          have hfr := Hfr.out _ st7
          have M7 := Lib.hid (M6.out.below hb7)
          have B7 := Lib.hid (below_base B6.out B6.out.size hb7)
          clear hb7 st7 M6 B6
          go_wp2_with fail
          with_reducible refine hfr.mono ?_
          rintro e w8 ⟨rfl, hb8, st8⟩
          have hfr := Hfr.out _ st8
          have M8 := Lib.hid (M7.out.below hb8)
          have B8 := Lib.hid (below_base B7.out B7.out.size hb8)
          clear hb8 st8 M7 B7
          go_wp2_with fail
          with_reducible refine hfr.mono ?_
          rintro e w9 ⟨rfl, hb9, st9⟩
          have M9 := M8.out.below hb9
          have B9 := Lib.hid (below_base B8.out B8.out.size hb9)
          obtain ⟨wm, hrun, km, hgm⟩ := Hmu.out w9 M9
          have KM := Keep.grown (S := fun i => i = hb) hgm (fun j hj => by injection hj with hj; exact hj.symm)
          have SM : Hid (St w wm gb mb sb qb c 64 pg' 0 t' ml' [] (-1)) := Lib.hid ⟨st9.gv.keep KM (by rintro i rfl; have := HB0.out; omega), st9.hs⟩
          have BM := Lib.hid (below_keep B9.out B9.out.size KM (by rintro i rfl; have := HB0.out; omega))
          have MM := Lib.hid km
          have JM : Hid ((T k :: J).length = k + 1) := Lib.hid (by rw [List.length_cons, J1.out])
          have KM2 : Hid (∀ q, q ∈ T k :: J → keyOk q) := Lib.hid (fun q hq => by
            rcases List.mem_cons.1 hq with rfl | h
            · exact HKO.out
            · exact K1.out q h)
          clear hb9 st9 M8 B8 M9 B9 hgm KM km Hfr hfr
          go_wp2_with fail
          go_roundw
          case rel => exact ⟨k + 1, f', t', ml', pg', T k :: J, rfl, by go_num, by omega, HF, JM, OV6, KM2, SM, MM, BM⟩
          case measure => clear i1; simp [intOf]; omega
        · rw [decide_eq_false hko]
          clear Hset hko
          go_wp2_with fail
          go_ret
          exact ⟨rfl, B4.out⟩
      · have hkn : ¬ (k : Int) < (n : Int) := by omega
        have hgetL := fun q (hq : q ∈ J) W (hW : St w W gb mb sb qb c 64 pg 0 t ml [] (-1)) => over_get w W gb mb sb qb c pg t ml J q hW O1.out hq (K1.out q hq)
        have Hget := Lib.hid hgetL
        have hdep : ∀ W, St w W gb mb sb qb c 64 pg 0 t ml [] (-1) → Calls Tryz.prog 30 #[.pointer (some ⟨gb, 0, none⟩)] W fun e w' => e = .returned (.int .i64 0) ∧ GV w w' gb mb sb qb c 64 pg (-1 + ((numsF t.leaves).length : Int)) ∧ Rk w.heap.size W w' := fun W hW => depth_ok w W gb mb sb qb c 64 0 pg _ t hW.gv hW.hs.tb
        have hchk : ∀ W, St w W gb mb sb qb c 64 pg 0 t ml [] (-1) → Calls Tryz.prog 21 #[.pointer (some ⟨gb, 0, none⟩), .int .i64 64, .slice none 0 0] W fun e w' => e = .returned (.int .i64 0) ∧ GV w w' gb mb sb qb c 64 pg (-1 + ((numsF t.leaves).length : Int)) ∧ Below W.heap.size W w' := fun W hW => check_in w W gb mb sb qb c 64 0 pg _ t ml hW.gv hW.hs (O1.out.inl hW.hs.tb)
        have Hdep := Lib.hid hdep
        have Hchk := Lib.hid hchk
        clear hlt hgetL hdep hchk F1 J1 O1 K1 HT Hal Ht
        go_wp2_with (first | (at_range; refine wpList_range_k _ rfl _ rfl hb k J rfl M4.out ?_; intro w5 cnt0 hrg0 hg0 hs0) | fail)
        have KR := Keep.grown (S := fun _ => False) hg0 (fun j hj => by cases hj)
        have S5 : Hid (St w w5 gb mb sb qb c 64 pg 0 t ml [] (-1)) := Lib.hid ⟨S4.out.gv.keep KR (fun i hi => hi.elim), S4.out.hs⟩
        have B5 := Lib.hid (below_keep B4.out B4.out.size KR (fun i hi => hi.elim))
        have R5 := Lib.hid hrg0
        have hrb : w.heap.size ≤ wr.heap.size := B4.out.size
        have hrl : gb < wr.heap.size ∧ mb < wr.heap.size ∧ sb < wr.heap.size ∧ qb < wr.heap.size ∧ gtab < wr.heap.size := by
          have h1 := S4.out.gv.lt
          have h2 := S4.out.gv.ord
          omega
        obtain ⟨rb, hrbe⟩ : ∃ rb, rb = wr.heap.size := ⟨_, rfl⟩
        rw [← hrbe] at R5 hrb hrl
        have HRL := Lib.hid hrl
        clear hrg0 hg0 hs0 KR hrl S4 M4 B4
        rw [← hrbe]
        clear hrbe
        go_loopw [10] (fun _ wr => ∃ cnt : Nat, Hid (KRng wr hb rb k J cnt) ∧ Hid (St w wr gb mb sb qb c 64 pg 0 t ml [] (-1)) ∧ Hid (Below w.heap.size w wr)) (fun _ wr => wr.rangeLeft hb rb)
        case atStart => exact ⟨cnt0, R5, S5, B5⟩
        case round =>
          clear R5 S5 B5
          obtain ⟨cnt, R6, S6, B6⟩ := hrel
          go_wp2_with (first | (at_next; refine wpList_next_k _ rfl _ rfl hb rb k cnt J rfl R6.out ?_ (fun q x w7 cnt7 hq hrg7 hlt7 hg7 hs7 hen => ?_)) | fail)
          · have hd := Hdep.out _ S6.out
            with_reducible refine hd.mono ?_
            rintro e w7 ⟨rfl, g7, k7⟩
            have hc := Hchk.out _ ⟨g7, S6.out.hs⟩
            have B7 := Lib.hid (below_base B6.out B6.out.size k7.bel)
            clear hd g7 k7 S6
            go_wp2_with fail
            with_reducible refine hc.mono ?_
            rintro e w8 ⟨rfl, g8, b8⟩
            have B8 := Lib.hid (below_base B7.out B7.out.size b8)
            clear g8 b8 hc
            go_wp2_with fail
            go_ret
            exact ⟨rfl, B8.out⟩
          · have K7 := Keep.grown (S := fun i => i = rb) hg7 (fun j hj => by injection hj with hj; exact hj.symm)
            have S7 : Hid (St w w7 gb mb sb qb c 64 pg 0 t ml [] (-1)) := Lib.hid ⟨S6.out.gv.keep K7 (by rintro i rfl; have := HRL.out; omega), S6.out.hs⟩
            have B7 := Lib.hid (below_keep B6.out B6.out.size K7 (by rintro i rfl; exact hrb))
            have R7 := Lib.hid hrg7
            have hg := Hget.out q hq _ S7.out
            have HLT := Lib.hid hlt7
            obtain ⟨U, hU⟩ : ∃ U, U = str q := ⟨_, rfl⟩
            rw [← hU] at hg
            rw [← hU]
            clear hU hen hrg7 hlt7 hg7 hs7 K7 S6 B6
            with_reducible refine hg.mono ?_
            rintro e w8 ⟨rfl, st8, b8⟩
            have BB8 := below_al b8 (celO U { data := #[118] } 0 0)
            have S8 : Hid (St w (w8.alloc (celO U { data := #[118] } 0 0)) gb mb sb qb c 64 pg 0 t ml [] (-1)) := Lib.hid ⟨S7.out.gv.below BB8, S7.out.hs⟩
            have B8 := Lib.hid (below_base B7.out B7.out.size BB8)
            have R8 := Lib.hid (R7.out.below BB8)
            have Z8 := heap_alloc_new w8 (celO U { data := #[118] } 0 0)
            have cz := blk_cell Z8
            have lz := lt_of_block Z8
            clear st8 b8 BB8 hg S7 B7 Z8
            go_wp2_with fail
            refine ⟨⟨cnt7, R8, S8, B8⟩, ?_⟩
            have h1 := R8.out.left_eq
            have h2 := R6.out.left_eq
            have h3 := HLT.out
            simp only [celO] at h1
            omega
/-- The law, of any texts. -/
theorem over_law (A : Option Addr) (n cp : Nat) (Tx : Nat → ByteArray) (w : World) (ht : Tab w) (hn64 : n ≤ maxLen) (hs : ∀ j, j < n → (Tx j).size ≤ maxLen) (hT : 0 < n → ∃ b off, A = some ⟨b, off, none⟩ ∧ b < w.heap.size ∧ ∀ j, j < n → w.cell? ⟨b, off + j, none⟩ = some (.string (Tx j))) :
    Calls Tryz.prog 6 #[.slice A n cp] w fun e w' => e = .returned (.bool true) ∧ Below w.heap.size w w' :=
  over_any A n cp (fun j => (Tx j).data.toList) w ht hn64 ⟨fun j hj => by rw [← str_of]; exact hs j hj, fun h0 => by
    obtain ⟨b, off, h1, h2, h3⟩ := hT h0
    exact ⟨b, off, h1, h2, fun j hj => by rw [← str_of]; exact h3 j hj⟩⟩
end Go.Proofs.YtijhamllnnilbaaGreatDoor.Ha
