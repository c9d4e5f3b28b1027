/- HashStays: the walk. -/
import Derived.Test.YtijhamllnnilbaaGreatDoorHoverM
import Derived.Test.YtijhamllnnilbaaGreatDoorHorderM
import Derived.Test.YtijhamllnnilbaaGreatDoorHstayPM
import Derived.Test.YtijhamllnnilbaaGreatDoorHcutBM
namespace Go.Proofs.YtijhamllnnilbaaGreatDoor.Ha
open Go.RowKit Go.Proofs.YtijhamllnnilbaaGreatDoor.Mem Go.Proofs.YtijhamllnnilbaaGreatDoor.Pg Go.Proofs.YtijhamllnnilbaaGreatDoor.Kp Go.Proofs.YtijhamllnnilbaaGreatDoor.Sp Go.Proofs.YtijhamllnnilbaaGreatDoor.Gr
set_option linter.unusedSimpArgs false
set_option linter.unusedVariables false
def someV : List UInt8 := [115, 111, 109, 101, 32, 118, 97, 108, 117, 101]
def fS : List UInt8 → List UInt8 := fun _ => someV
theorem stay_set (w0 W : World) (gb mb sb qb c D : Nat) (pg : Nat → Pag) (t : Tri) (ml : List UInt8) (J : List (List UInt8)) (k : List UInt8) (h : St w0 W gb mb sb qb c 64 pg D t ml [] (-1)) (ho : Kv t fS J) (hT : Thin t) (hJ : J.length ≤ 60) (hk : keyOk k) :
 Calls Tryz.prog 18 #[.pointer (some ⟨gb, 0, none⟩), .agg #[.string (str k), .string { data := #[115, 111, 109, 101, 32, 118, 97, 108, 117, 101] }, .int .i64 0, .int .i64 0], .bool true] W fun e w' => e = .returned (.int .i64 0) ∧
  (∃ pg' D' t' ml', St w0 w' gb mb sb qb c 64 pg' D' t' ml' [] (-1) ∧ Kv t' fS (k :: J) ∧ Thin t') ∧ Wk w0.heap.size gb mb W w' := by
 have hx : (⟨k, someV, 0, 0⟩ : Cel).ok := (Cel.ok_iff _).2 ⟨hk, .inl ⟨rfl, by show 10 ≤ 40; omega, rfl⟩⟩
 have hcel := ho.cells h.hs.tb (fun _ => by show 10 ≤ 10; omega)
 refine (set_ok w0 W gb mb sb qb c 64 D pg t ml [] (-1) ⟨k, someV, 0, 0⟩ true h hx (by omega) (fun _ => split_law w0 gb mb sb qb c 64 [] (-1) k (by have := hk.2; omega) (by omega))).mono ?_
 rintro e w' ⟨hp, hw⟩
 rcases hp with ⟨rfl, pg', D', t', ml', hs, hso, hl, hd⟩ | ⟨_, pg', D', t', ml', hs, hg, hn, hTk⟩
 · refine ⟨rfl, ⟨pg', D', t', ml', hs, ho.put k hl, hT.set h.hs.tb hso (by have := hk.2; show 4 + k.length + 10 ≤ 30; omega) (fun c hc he => ?_)⟩, hw⟩
   have h1 := (hcel.1 c (List.mem_flatMap.2 ⟨_, t.at_mem _, hc⟩)).2
   rw [h1, he]
   exact Nat.le_refl _
 · have h1 := (take_free hs.hs).1 hTk
   have h2 := stay_few ho h.hs.tb hs.hs.tb (fun _ => by show 10 ≤ 10; omega) hJ hT (by rw [ovL_grown hg, ovL_cutT])
   simp only [List.length_nil] at h1
   omega
theorem stay_cut (w0 W : World) (gb mb sb qb c D : Nat) (pg : Nat → Pag) (t : Tri) (ml : List UInt8) (f : List UInt8 → List UInt8) (J : List (List UInt8)) (k : List UInt8) (h : St w0 W gb mb sb qb c 64 pg D t ml [] (-1)) (ho : Kv t f J) (hk : keyOk k) :
 Calls Tryz.prog 32 #[.pointer (some ⟨gb, 0, none⟩), .string (str k), .bool false] W fun e w' => ∃ E : Int, e = .returned (.int .i64 E) ∧
  (∃ pg' t', St w0 w' gb mb sb qb c 64 pg' D t' ml [] (-1) ∧ Kv t' f (J.filter (fun q => !(q == k))) ∧ (numsF t'.leaves).length = (numsF t.leaves).length) ∧ Wk w0.heap.size gb mb W w' := by
 by_cases hj : k ∈ J
 · refine (cut_stay_ok w0 W gb mb sb qb c 64 D pg t ml [] (-1) k h hk ((ho.hasK k).2 hj)).mono ?_
   rintro e w' ⟨rfl, ⟨pg', hs⟩, hw⟩
   exact ⟨0, rfl, ⟨pg', _, hs, ho.cut h.hs k, cutT_len k t⟩, hw⟩
 · refine (cut_none_ok w0 W gb mb sb qb c 64 D pg _ t k false h.gv h.hs.tb (fun hh => hj ((ho.hasK k).1 hh.2))).mono ?_
   rintro e w' ⟨rfl, hg, hr⟩
   exact ⟨3, rfl, ⟨pg, t, ⟨hg, h.hs⟩, by rw [ho.cutNo hj]; exact ho, rfl⟩, .of_rk hr⟩
theorem gone_get (w0 W : World) (gb mb sb qb c n D : Nat) (pg : Nat → Pag) (t : Tri) (ml : List UInt8) (X : List Nat) (tk0 : Int) (k : List UInt8) (h : St w0 W gb mb sb qb c n pg D t ml X tk0) (hl : lookT t k = none) :
 Calls Tryz.prog 25 #[.pointer (some ⟨gb, 0, none⟩), .string (str k)] W fun e w' => e = .returned (.tuple #[zcV, .int .i64 3]) ∧ St w0 w' gb mb sb qb c n pg D t ml X tk0 ∧ Below W.heap.size W w' := by
 have h1 := get_ok w0 W gb mb sb qb c n D pg _ t k h.gv h.hs.tb
 have e1 : (if keyOk k then getRes k (t.at' (sumF k)).cells else .returned (.tuple #[zcV, .int .i64 3])) = Ending.returned (.tuple #[zcV, .int .i64 3]) := by
  by_cases hk : keyOk k
  · rw [if_pos hk]; exact getRes_no hl
  · rw [if_neg hk]
 rw [e1] at h1
 refine h1.mono ?_
 rintro e w' ⟨rfl, hg, hr⟩
 exact ⟨rfl, ⟨hg, h.hs⟩, hr.bel⟩
theorem kv_dump0 (w0 W : World) (gb mb sb qb c D : Nat) (pg : Nat → Pag) (t : Tri) (ml : List UInt8) (f : List UInt8 → List UInt8) (h : St w0 W gb mb sb qb c 64 pg D t ml [] (-1)) (ho : Kv t f []) :
 Calls Tryz.prog 19 #[.pointer (some ⟨gb, 0, none⟩)] W fun e w' => ∃ A cap, e = .returned (.tuple #[.slice A 0 cap, .int .i64 0]) ∧ St w0 w' gb mb sb qb c 64 pg D t ml [] (-1) ∧ Below W.heap.size W w' := by
 refine (kv_dump w0 W gb mb sb qb c D pg t ml f [] h ho).mono ?_
 rintro e w' ⟨A, cap, es, rfl, _, _, hp, _, hs, hb⟩
 have h1 := hp.trans ((celsF_perm h.hs.tb).map (entOf Cel.val))
 have h2 : t.leaves.flatMap Lf.cells = [] := ho.none h.hs.tb
 have h3 : es = [] := by
  have h4 := h1.length_eq
  simp only [List.length_map] at h4
  have h5 : (cellsT t).length = 0 := by rw [ho.none h.hs.tb]; rfl
  exact List.length_eq_zero_iff.1 (h4.trans h5)
 subst h3
 exact ⟨A, cap, rfl, hs, hb⟩
theorem free_ex {w0 w : World} {gb mb sb qb c n D : Nat} {pg : Nat → Pag} {t : Tri} {ml : List UInt8} {tk0 : Int} (h : St w0 w gb mb sb qb c n pg D t ml [] tk0) : ∃ f, f + 2 + (numsF t.leaves).length = n := by
 obtain ⟨f, h1, _⟩ := free_st h
 exact ⟨f, h1⟩
set_option maxRecDepth 100000 in
set_option maxHeartbeats 8000000 in
theorem stay_any (A : Option Addr) (n cp : Nat) (T : Nat → List UInt8) (w : World) (ht : Tab w) (hn64 : n ≤ maxLen) (hT : Txts w A n T) :
 Calls Tryz.prog 9 #[.slice A n cp] w fun e w' => e = .returned (.bool true) ∧ Below w.heap.size w w' := by
 have Hal := Lib.hid (fun W (k : Tab W) => alive_any W k)
 have Ht := Lib.hid ht
 have HT := Lib.hid hT
 clear ht hT
 by_cases hlong : 60 < n
 · have h1I : (60 : Int) < (n : Int) := by omega
   go_enter Tryz.func9, Tryz.ntmps9
   go_wp2_with fail
   with_reducible refine (Hal.out _ Ht.out).mono ?_
   rintro e w1 ⟨rfl, hb1⟩
   have B1 := Lib.hid hb1
   clear hb1
   go_wp2_with fail
   go_ret
   exact ⟨rfl, B1.out⟩
 · have h1I : ¬ (60 : Int) < (n : Int) := by omega
   have hnew : ∀ W, Tab W → Calls Tryz.prog 14 #[.int .i64 64] W fun e w' => ∃ sb qb c, e = .returned (.pointer (some ⟨sb, 0, none⟩)) ∧ W.heap.size ≤ sb ∧ W.heap.size ≤ qb ∧ Below W.heap.size W w' ∧ Sto w' sb qb 64 c (-1) (bnew 64 3) := fun W h => newT_any 64 W h (by omega) (by omega)
   have Hnew := Lib.hid hnew
   clear hnew
   go_enter Tryz.func9, Tryz.ntmps9
   go_wp2_with fail
   with_reducible refine (Hal.out _ Ht.out).mono ?_
   rintro e wz ⟨rfl, hbz⟩
   have Tz := Lib.hid (Ht.out.below hbz)
   have Bz0 := Lib.hid hbz
   clear hbz
   go_wp2_with fail
   with_reducible refine (Hnew.out _ Tz.out).mono ?_
   rintro e w1 ⟨sb, qb, c, rfl, hsb, hqb, hb1, hs1⟩
   have T1 := Lib.hid (Tz.out.below hb1)
   have S1 := Lib.hid hs1
   have B1 := Lib.hid (below_base Bz0.out Bz0.out.size hb1)
   clear hs1 hb1 Hnew
   go_wp2_with fail
   with_reducible refine (newG_any w w1 64 sb qb c (bnew 64 3) (pgNew 64) T1.out S1.out (fun i _ => bnew_shows 64 i) B1.out).mono ?_
   rintro e w2 ⟨gb, mb, rfl, hgv, hgb, hmb, hb2⟩
   have S2 : Hid (St w w2 gb mb sb qb c 64 (pgNew 64) 0 t00 (fmtL 64) [] (-1)) := Lib.hid ⟨hgv, hs_new 64 (by omega) (by omega)⟩
   have B2 := Lib.hid (below_base B1.out B1.out.size hb2)
   have hob : w.heap.size ≤ gb ∧ w.heap.size ≤ mb := ⟨hgv.ord.1, hgv.ord.2.1⟩
   clear hgv hb2 hsb hqb hgb hmb
   go_wp2_with fail
   go_loopg [31] n (fun g v31 wr => ∃ (k D : Nat) (t : Tri) (ml : List UInt8) (pg : Nat → Pag) (J : List (List UInt8)), v31 = .int .i64 (k : Nat) ∧ g + k = n ∧ Hid (J.length = k) ∧ Hid (Kv t fS J) ∧ Hid (Thin t) ∧ Hid (∀ q, q ∈ J → ∃ i, i < k ∧ q = T i) ∧ Hid (∀ i, i < k → keyOk (T i)) ∧ Hid (St w wr gb mb sb qb c 64 pg D t ml [] (-1)) ∧ Hid (Below w.heap.size w wr))
   case atStart => exact ⟨0, 0, t00, fmtL 64, pgNew 64, [], rfl, by omega, Lib.hid rfl, Lib.hid (Kv.new _), Lib.hid thin00, Lib.hid (fun q hq => by cases hq), Lib.hid (fun i hi => absurd hi (Nat.not_lt_zero i)), S2, B2⟩
   case round =>
    clear S2 B2 S1 B1 T1 Tz Bz0
    obtain ⟨k, D, t, ml, pg, J, rfl, hk, J1, V1, N1, I1, K1, S4, B4⟩ := hrel
    by_cases hlt : k < n
    · have hkI : (k : Int) < (n : Int) := by omega
      have i1 : IntKind.i64.wrap ((k : Int) + 1) = (k : Int) + 1 := IntWalk.i64_in _ (by omega)
      obtain ⟨kb, ko, hA, hkb, hc⟩ := HT.out.2 (by omega)
      subst hA
      have cK := (B4.out.cell hkb).trans (hc k hlt)
      have lK := Nat.lt_of_lt_of_le hkb B4.out.size
      have hkey := fun W => key_any (T k) W
      have hset := fun (hko : keyOk (T k)) W (hW : St w W gb mb sb qb c 64 pg D t ml [] (-1)) => stay_set w W gb mb sb qb c D pg t ml J (T k) hW V1.out N1.out (by have := J1.out; omega) hko
      obtain ⟨U, hU⟩ : ∃ U, U = str (T k) := ⟨_, rfl⟩
      rw [← hU] at cK
      simp only [← hU] at hkey hset
      have Hkey := Lib.hid hkey
      have Hset := Lib.hid hset
      clear hU hc hkey hset
      go_wp2_with fail
      with_reducible refine (Hkey.out _).mono ?_
      rintro e w5 ⟨rfl, rfl⟩
      by_cases hko : keyOk (T k)
      · rw [decide_eq_true hko]
        have hst := Hset.out hko _ S4.out
        have HKO := Lib.hid hko
        clear Hset hko
        go_wp2_with fail
        with_reducible refine hst.mono ?_
        rintro e w6 ⟨rfl, ⟨pg', D', t', ml', st6, kv6, th6⟩, wk6⟩
        have B6 := Lib.hid (below_keep B4.out B4.out.size wk6.keep (by rintro i (rfl | rfl) <;> omega))
        have S6 := Lib.hid st6
        have V6 := Lib.hid kv6
        have N6 := Lib.hid th6
        have JM : Hid ((T k :: J).length = k + 1) := Lib.hid (by rw [List.length_cons, J1.out])
        have I6 : Hid (∀ q, q ∈ T k :: J → ∃ i, i < k + 1 ∧ q = T i) := Lib.hid (fun q hq => by
         rcases List.mem_cons.1 hq with rfl | h
         · exact ⟨k, by omega, rfl⟩
         · obtain ⟨i, h1, h2⟩ := I1.out q h
           exact ⟨i, by omega, h2⟩)
        have K6 : Hid (∀ i, i < k + 1 → keyOk (T i)) := Lib.hid (fun i hi => by
         by_cases e : i = k
         · subst e; exact HKO.out
         · exact K1.out i (by omega))
        clear st6 kv6 th6 wk6 hst S4 B4 V1 N1 I1 K1 J1 cK lK
        go_wp2_with fail
        go_roundg (gk - 1)
        case measure => omega
        case rel => exact ⟨k + 1, D', t', ml', pg', T k :: J, by go_num, by omega, JM, V6, N6, I6, K6, S6, B6⟩
      · rw [decide_eq_false hko]
        have hkey := Hkey.out
        have HNO := Lib.hid hko
        clear Hset hko
        go_wp2_with fail
        with_reducible refine (hkey _).mono ?_
        rintro e w6 ⟨rfl, rfl⟩
        rw [decide_eq_false HNO.out]
        go_wp2_with fail
        go_ret
        exact ⟨rfl, B4.out⟩
    · have hkn : ¬ (k : Int) < (n : Int) := by omega
      obtain rfl : k = n := by omega
      obtain ⟨f, hf⟩ := free_ex S4.out
      have F4 := Lib.hid hf
      have hfr := free_at S4.out hf
      have hdep : ∀ W, St w W gb mb sb qb c 64 pg D t ml [] (-1) → Calls Tryz.prog 30 #[.pointer (some ⟨gb, 0, none⟩)] W fun e w' => e = .returned (.int .i64 (D : Nat)) ∧ GV w w' gb mb sb qb c 64 pg (-1 + ((numsF t.leaves).length : Int)) ∧ Rk w.heap.size W w' := fun W hW => depth_ok w W gb mb sb qb c 64 D pg _ t hW.gv hW.hs.tb
      have Hdep := Lib.hid hdep
      clear hf hdep hlt N1 Hal Ht
      go_wp2_with fail
      with_reducible refine hfr.mono ?_
      rintro e w5 ⟨rfl, hb5, st5⟩
      have hd := Hdep.out _ st5
      have HS5 := Lib.hid st5.hs
      have B5 := Lib.hid (below_base B4.out B4.out.size hb5)
      clear hfr hb5 st5 S4 B4
      go_wp2_with fail
      with_reducible refine hd.mono ?_
      rintro e w6 ⟨rfl, g6, k6⟩
      have S6 : Hid (St w w6 gb mb sb qb c 64 pg D t ml [] (-1)) := Lib.hid ⟨g6, HS5.out⟩
      have B6 := Lib.hid (below_base B5.out B5.out.size k6.bel)
      clear hd g6 k6 B5 HS5 Hdep
      go_wp2_with fail
      go_loopg [55] k (fun g v55 wr => ∃ (j : Nat) (t : Tri) (pg : Nat → Pag) (J2 : List (List UInt8)), v55 = .int .i64 (j : Nat) ∧ g + j = k ∧ Hid (Kv t fS J2) ∧ Hid (∀ q, q ∈ J2 → q ∈ J ∧ ∀ i, i < j → q ≠ T i) ∧ Hid (f + 2 + (numsF t.leaves).length = 64) ∧ Hid (St w wr gb mb sb qb c 64 pg D t ml [] (-1)) ∧ Hid (Below w.heap.size w wr))
      case atStart => exact ⟨0, t, pg, J, rfl, by omega, V1, Lib.hid (fun q hq => ⟨hq, fun i hi => absurd hi (Nat.not_lt_zero i)⟩), F4, S6, B6⟩
      case round =>
       clear V1 F4 S6 B6
       obtain ⟨j, t2, pg2, J2, rfl, hj, V2, I2, F2, S7, B7⟩ := hrel
       by_cases hlt2 : j < k
       · have hjI : (j : Int) < (k : Int) := by omega
         have i1 : IntKind.i64.wrap ((j : Int) + 1) = (j : Int) + 1 := IntWalk.i64_in _ (by omega)
         obtain ⟨kb, ko, hA, hkb, hc⟩ := HT.out.2 (by omega)
         subst hA
         have cK := (B7.out.cell hkb).trans (hc j hlt2)
         have lK := Nat.lt_of_lt_of_le hkb B7.out.size
         have hcut := stay_cut w wr gb mb sb qb c D pg2 t2 ml fS J2 (T j) S7.out V2.out (K1.out j hlt2)
         have hget := fun W (t3 : Tri) pg3 (hW : St w W gb mb sb qb c 64 pg3 D t3 ml [] (-1)) (hl : lookT t3 (T j) = none) => gone_get w W gb mb sb qb c 64 D pg3 t3 ml [] (-1) (T j) hW hl
         obtain ⟨U, hU⟩ : ∃ U, U = str (T j) := ⟨_, rfl⟩
         rw [← hU] at cK hcut
         simp only [← hU] at hget
         have Hget := Lib.hid hget
         clear hU hc hget
         go_wp2_with fail
         with_reducible refine hcut.mono ?_
         rintro e w8 ⟨E, rfl, ⟨pg3, t3, st8, kv8, hn8⟩, wk8⟩
         have hlk : lookT t3 (T j) = none := by
          rw [kv8.look, if_neg]
          simp
         have hg := Hget.out w8 t3 pg3 st8 hlk
         have V8 := Lib.hid kv8
         have F8 : Hid (f + 2 + (numsF t3.leaves).length = 64) := Lib.hid (by rw [hn8]; exact F2.out)
         have I8 : Hid (∀ q, q ∈ J2.filter (fun q => !(q == T j)) → q ∈ J ∧ ∀ i, i < j + 1 → q ≠ T i) := Lib.hid (fun q hq => by
          obtain ⟨h1, h2⟩ := List.mem_filter.1 hq
          obtain ⟨h3, h4⟩ := I2.out q h1
          refine ⟨h3, fun i hi => ?_⟩
          by_cases e : i = j
          · subst e; simpa using h2
          · exact h4 i (by omega))
         have B8 := Lib.hid (below_keep B7.out B7.out.size wk8.keep (by rintro i (rfl | rfl) <;> omega))
         clear st8 kv8 hn8 wk8 hlk hcut S7 B7 V2 F2 I2 Hget cK lK
         go_wp2_with fail
         with_reducible refine hg.mono ?_
         rintro e w9 ⟨rfl, st9, hb9⟩
         have BB9 := below_al hb9 zcO
         have S9 : Hid (St w (w9.alloc zcO) gb mb sb qb c 64 pg3 D t3 ml [] (-1)) := Lib.hid ⟨st9.gv.below (below_al (Below.refl _ w9) zcO), st9.hs⟩
         have B9 := Lib.hid (below_base B8.out B8.out.size BB9)
         clear st9 hb9 BB9 hg B8
         go_wp2_with fail
         go_roundg (gk - 1)
         case measure => omega
         case rel => exact ⟨j + 1, t3, pg3, _, by go_num, by omega, V8, I8, F8, S9, B9⟩
       · have hjn : ¬ (j : Int) < (k : Int) := by omega
         obtain rfl : j = k := by omega
         have V0 : Hid (Kv t2 fS []) := Lib.hid (by
          have e : J2 = [] := List.eq_nil_iff_forall_not_mem.2 (fun q hq => by
           obtain ⟨h1, h2⟩ := I2.out q hq
           obtain ⟨i, h3, h4⟩ := I1.out q h1
           exact h2 i h3 h4)
          rw [← e]; exact V2.out)
         have hdump := kv_dump0 w wr gb mb sb qb c D pg2 t2 ml fS S7.out V0.out
         have hfr := fun W (hW : St w W gb mb sb qb c 64 pg2 D t2 ml [] (-1)) => free_at hW F2.out
         have hdep : ∀ W, St w W gb mb sb qb c 64 pg2 D t2 ml [] (-1) → Calls Tryz.prog 30 #[.pointer (some ⟨gb, 0, none⟩)] W fun e w' => e = .returned (.int .i64 (D : Nat)) ∧ GV w w' gb mb sb qb c 64 pg2 (-1 + ((numsF t2.leaves).length : Int)) ∧ Rk w.heap.size W w' := fun W hW => depth_ok w W gb mb sb qb c 64 D pg2 _ t2 hW.gv hW.hs.tb
         have hchk := fun W (hW : St w W gb mb sb qb c 64 pg2 D t2 ml [] (-1)) => kv_check w W gb mb sb qb c D pg2 t2 ml fS [] hW V0.out
         have Hfr := Lib.hid hfr
         have Hdep := Lib.hid hdep
         have Hchk := Lib.hid hchk
         have HS7 := Lib.hid S7.out.hs
         clear hfr hdep hchk hlt2 V2 I2 F2 I1 K1 HT
         go_wp2_with fail
         with_reducible refine hdump.mono ?_
         rintro e w8 ⟨A8, c8, rfl, st8, hb8⟩
         have hfr := Hfr.out _ st8
         have B8 := Lib.hid (below_base B7.out B7.out.size hb8)
         clear st8 hb8 hdump S7 B7
         go_wp2_with fail
         with_reducible refine hfr.mono ?_
         rintro e w9 ⟨rfl, hb9, st9⟩
         have hd := Hdep.out _ st9
         have B9 := Lib.hid (below_base B8.out B8.out.size hb9)
         clear st9 hb9 hfr B8
         go_wp2_with fail
         with_reducible refine hd.mono ?_
         rintro e w10 ⟨rfl, g10, k10⟩
         have hc := Hchk.out _ ⟨g10, HS7.out⟩
         have B10 := Lib.hid (below_base B9.out B9.out.size k10.bel)
         clear g10 k10 hd B9
         go_wp2_with fail
         with_reducible refine hc.mono ?_
         rintro e w11 ⟨rfl, _, hb11⟩
         have B11 := Lib.hid (below_base B10.out B10.out.size hb11)
         clear hc hb11 B10
         go_wp2_with fail
         go_ret
         exact ⟨rfl, B11.out⟩
theorem stay_law (A : Option Addr) (n cp : Nat) (Tx : Nat → ByteArray) (w : World) (ht : Tab w) (hn64 : n ≤ maxLen) (hs : ∀ j, j < n → (Tx j).size ≤ maxLen) (hT : 0 < n → ∃ b off, A = some ⟨b, off, none⟩ ∧ b < w.heap.size ∧ ∀ j, j < n → w.cell? ⟨b, off + j, none⟩ = some (.string (Tx j))) :
 Calls Tryz.prog 9 #[.slice A n cp] w fun e w' => e = .returned (.bool true) ∧ Below w.heap.size w w' :=
 stay_any A n cp (fun j => (Tx j).data.toList) w ht hn64 ⟨fun j hj => by rw [← str_of]; exact hs j hj, fun h0 => by
  obtain ⟨b, off, h1, h2, h3⟩ := hT h0
  exact ⟨b, off, h1, h2, fun j hj => by rw [← str_of]; exact h3 j hj⟩⟩
end Go.Proofs.YtijhamllnnilbaaGreatDoor.Ha
