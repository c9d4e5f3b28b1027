/- HashOrder: the walk. -/
import Derived.Test.YtijhamllnnilbaaGreatDoorHoverM
import Derived.Test.YtijhamllnnilbaaGreatDoorHordPM
import Derived.Test.YtijhamllnnilbaaGreatDoorHsameM
namespace Go.Proofs.YtijhamllnnilbaaGreatDoor.Ha
open Go.RowKit Go.Proofs.YtijhamllnnilbaaGreatDoor.Mem Go.Proofs.YtijhamllnnilbaaGreatDoor.Pg Go.Proofs.YtijhamllnnilbaaGreatDoor.Kp Go.Proofs.YtijhamllnnilbaaGreatDoor.Sp Go.Proofs.YtijhamllnnilbaaGreatDoor.Gr
set_option linter.unusedSimpArgs false
set_option linter.unusedVariables false
theorem kv_set (w0 W : World) (gb mb sb qb c D : Nat) (pg : Nat → Pag) (t : Tri) (ml : List UInt8) (f : List UInt8 → List UInt8) (J : List (List UInt8)) (k : List UInt8) (h : St w0 W gb mb sb qb c 64 pg D t ml [] (-1)) (ho : Kv t f J) (hk : keyOk k) (hf : (f k).length ≤ 40) :
 Calls Tryz.prog 18 #[.pointer (some ⟨gb, 0, none⟩), .agg #[.string (str k), .string (str (f k)), .int .i64 0, .int .i64 0], .bool true] W fun e w' => ∃ E : Int, e = .returned (.int .i64 E) ∧ Wk w0.heap.size gb mb W w' ∧
  ((E = 0 ∧ ∃ pg' D' t' ml', St w0 w' gb mb sb qb c 64 pg' D' t' ml' [] (-1) ∧ Kv t' f (k :: J)) ∨ E = 6) := by
 have hx : (⟨k, f k, 0, 0⟩ : Cel).ok := (Cel.ok_iff _).2 ⟨hk, .inl ⟨rfl, hf, rfl⟩⟩
 refine (set_ok w0 W gb mb sb qb c 64 D pg t ml [] (-1) ⟨k, f k, 0, 0⟩ true h hx (by omega) (fun _ => split_law w0 gb mb sb qb c 64 [] (-1) k (by have := hk.2; omega) (by omega))).mono ?_
 rintro e w' ⟨hp, hw⟩
 rcases hp with ⟨rfl, pg', D', t', ml', hs, hso, hl, hd⟩ | ⟨rfl, _⟩
 · exact ⟨0, rfl, hw, .inl ⟨rfl, pg', D', t', ml', hs, ho.put k hl⟩⟩
 · exact ⟨6, rfl, hw, .inr rfl⟩
def rot (n : Nat) (tn : Int) : Nat := ((tn.tmod n + n).tmod n).toNat
theorem rot_at (n k : Nat) (tn : Int) (h1 : 1 ≤ n) (h2 : n ≤ 50) (hk : k < n) : (wrap64 ((k : Int) + (wrap64 (tn.tmod n + n)).tmod n)).tmod n = (((k + rot n tn) % n : Nat) : Int) := by
 have hn : (0 : Int) < n := by omega
 have a1 : tn.tmod n < n := Int.tmod_lt_of_pos _ hn
 have a2 : -(n : Int) < tn.tmod n := by
  have h := Int.lt_tmod_of_pos tn hn
  omega
 have e1 : wrap64 (tn.tmod n + n) = tn.tmod n + n := IntWalk.wrap64_in _ (by omega)
 have b1 : (tn.tmod n + n).tmod n < n := Int.tmod_lt_of_pos _ hn
 have b2 : 0 ≤ (tn.tmod n + n).tmod n := Int.tmod_nonneg _ (by omega)
 have e2 : (tn.tmod n + n).tmod n = (rot n tn : Int) := by unfold rot; omega
 rw [e1, e2]
 have e3 : wrap64 ((k : Int) + (rot n tn : Int)) = (k : Int) + (rot n tn : Int) := IntWalk.wrap64_in _ (by omega)
 rw [e3, Int.tmod_eq_emod_of_nonneg (by omega)]
 norm_cast
theorem rot_lt (n : Nat) (tn : Int) (h1 : 1 ≤ n) : rot n tn < n := by
 have b1 : (tn.tmod n + n).tmod n < n := Int.tmod_lt_of_pos _ (by omega)
 unfold rot
 omega
theorem rot_all (n r : Nat) (T : Nat → List UInt8) (hr : r < n) (q : List UInt8) : (∃ i, i < n ∧ q = T i) ↔ ∃ i, i < n ∧ q = T ((i + r) % n) := by
 constructor
 · rintro ⟨i, h1, rfl⟩
   by_cases h : r ≤ i
   · exact ⟨i - r, by omega, by rw [show i - r + r = i by omega, Nat.mod_eq_of_lt h1]⟩
   · exact ⟨i + n - r, by omega, by rw [show i + n - r + r = i + n by omega, Nat.add_mod_right, Nat.mod_eq_of_lt h1]⟩
 · rintro ⟨i, h1, rfl⟩
   exact ⟨(i + r) % n, Nat.mod_lt _ (by omega), rfl⟩
theorem kv_dump (w0 W : World) (gb mb sb qb c D : Nat) (pg : Nat → Pag) (t : Tri) (ml : List UInt8) (f : List UInt8 → List UInt8) (J : List (List UInt8)) (h : St w0 W gb mb sb qb c 64 pg D t ml [] (-1)) (ho : Kv t f J) :
 Calls Tryz.prog 19 #[.pointer (some ⟨gb, 0, none⟩)] W fun e w' => ∃ A cap es, e = .returned (.tuple #[.slice A es.length cap, .int .i64 0]) ∧ es.length ≤ 1000000 ∧ Ents w' A es ∧
  es.Perm ((celsF t (fstT t (2 ^ D))).map (entOf Cel.val)) ∧ SortedK Prod.fst es ∧ St w0 w' gb mb sb qb c 64 pg D t ml [] (-1) ∧ Below W.heap.size W w' := by
 refine (dump_ok w0 W gb mb sb qb c 64 D pg _ t h.gv h.hs.tb Cel.val (fun _ => []) (ho.inl h.hs.tb).at').mono ?_
 rintro e w' ⟨A, cap, es, rfl, hown, hp, hs, hg, hb⟩
 refine ⟨A, cap, es, rfl, ?_, ents_of_own hown, hp, hs, ⟨hg, h.hs⟩, hb⟩
 have h1 := hp.length_eq
 have h2 := celsF_all h.hs.tb (by omega)
 rw [List.length_map] at h1
 omega
theorem kv_check (w0 W : World) (gb mb sb qb c D : Nat) (pg : Nat → Pag) (t : Tri) (ml : List UInt8) (f : List UInt8 → List UInt8) (J : List (List UInt8)) (h : St w0 W gb mb sb qb c 64 pg D t ml [] (-1)) (ho : Kv t f J) :
 Calls Tryz.prog 21 #[.pointer (some ⟨gb, 0, none⟩), .int .i64 64, .slice none 0 0] W fun e w' => e = .returned (.int .i64 0) ∧ St w0 w' gb mb sb qb c 64 pg D t ml [] (-1) ∧ Below W.heap.size W w' :=
 (check_in w0 W gb mb sb qb c 64 D pg _ t ml h.gv h.hs (ho.inl h.hs.tb)).mono fun e w' ⟨h1, h2, h3⟩ => ⟨h1, ⟨h2, h.hs⟩, h3⟩
set_option maxRecDepth 100000 in
set_option maxHeartbeats 8000000 in
theorem order_any (A : Option Addr) (n cp : Nat) (tn : Int) (T : Nat → List UInt8) (w : World) (ht : Tab w) (hn64 : n ≤ maxLen) (hT : Txts w A n T) :
 Calls Tryz.prog 3 #[.slice A n cp, .int .i64 tn] w fun e w' => e = .returned (.bool true) ∧ Below w.heap.size w w' := by
 have Hal := Lib.hid (fun W (k : Tab W) => alive_any W k)
 have Ht := Lib.hid ht
 have HT := Lib.hid hT
 clear ht hT
 by_cases hlong : n < 1 ∨ 50 < n
 · by_cases h0 : n < 1
   · have h1I : (n : Int) < 1 := by omega
     go_enter Tryz.func3, Tryz.ntmps3
     go_wp2_with fail
     with_reducible refine (Hal.out _ Ht.out).mono ?_
     rintro e w1 ⟨rfl, hb1⟩
     have B1 := Lib.hid hb1
     clear hb1
     go_wp2_with fail
     go_ret
     exact ⟨rfl, B1.out⟩
   · have h1I : ¬ (n : Int) < 1 := by omega
     have h2I : (50 : Int) < (n : Int) := by omega
     go_enter Tryz.func3, Tryz.ntmps3
     go_wp2_with fail
     with_reducible refine (Hal.out _ Ht.out).mono ?_
     rintro e w1 ⟨rfl, hb1⟩
     have B1 := Lib.hid hb1
     clear hb1
     go_wp2_with fail
     go_ret
     exact ⟨rfl, B1.out⟩
 · have h1I : ¬ (n : Int) < 1 := by omega
   have h2I : ¬ (50 : Int) < (n : Int) := by omega
   have hnew : ∀ W, Tab W → Calls Tryz.prog 14 #[.int .i64 64] W fun e w' => ∃ sb qb c, e = .returned (.pointer (some ⟨sb, 0, none⟩)) ∧ W.heap.size ≤ sb ∧ W.heap.size ≤ qb ∧ Below W.heap.size W w' ∧ Sto w' sb qb 64 c (-1) (bnew 64 3) := fun W h => newT_any 64 W h (by omega) (by omega)
   have Hnew := Lib.hid hnew
   clear hnew
   go_enter Tryz.func3, Tryz.ntmps3
   go_wp2_with fail
   with_reducible refine (Hal.out _ Ht.out).mono ?_
   rintro e wz ⟨rfl, hbz⟩
   have Tz := Lib.hid (Ht.out.below hbz)
   have Bz0 := Lib.hid hbz
   clear hbz
   go_wp2_with fail
   with_reducible refine (Hnew.out _ Tz.out).mono ?_
   rintro e w1 ⟨sa, qa, ca, rfl, hsa, hqa, hb1, hs1⟩
   have T1 := Lib.hid (Tz.out.below hb1)
   have S1 := Lib.hid hs1
   have B1 := Lib.hid (below_base Bz0.out Bz0.out.size hb1)
   clear hs1 hb1
   go_wp2_with fail
   with_reducible refine (Hnew.out _ T1.out).mono ?_
   rintro e w2 ⟨sb, qb, cb, rfl, hsb, hqb, hb2, hs2⟩
   have T2 := Lib.hid (T1.out.below hb2)
   have S2 := Lib.hid hs2
   have R2 := Lib.hid (S1.out.below hb2)
   have B2 := Lib.hid (below_base B1.out B1.out.size hb2)
   clear hs2 hb2 Hnew
   go_wp2_with fail
   with_reducible refine (newG_any w w2 64 sa qa ca (bnew 64 3) (pgNew 64) T2.out R2.out (fun i _ => bnew_shows 64 i) B2.out).mono ?_
   rintro e w3 ⟨ga, ma, rfl, hga, hgla, hmla, hb3⟩
   have SA3 : Hid (St w w3 ga ma sa qa ca 64 (pgNew 64) 0 t00 (fmtL 64) [] (-1)) := Lib.hid ⟨hga, hs_new 64 (by omega) (by omega)⟩
   have T3 := Lib.hid (T2.out.below hb3)
   have S3 := Lib.hid (S2.out.below hb3)
   have B3 := Lib.hid (below_base B2.out B2.out.size hb3)
   have hl2 : sb < w2.heap.size ∧ qb < w2.heap.size := ⟨S2.out.lt1, S2.out.lt2⟩
   have hla : ga < w3.heap.size ∧ ma < w3.heap.size ∧ sa < w3.heap.size ∧ qa < w3.heap.size := hga.lt
   have hoa := hga.ord
   clear hga hb3
   go_wp2_with fail
   with_reducible refine (newG_any w w3 64 sb qb cb (bnew 64 3) (pgNew 64) T3.out S3.out (fun i _ => bnew_shows 64 i) B3.out).mono ?_
   rintro e w4 ⟨gb, mb, rfl, hgb, hglb, hmlb, hb4⟩
   have SB4 : Hid (St w w4 gb mb sb qb cb 64 (pgNew 64) 0 t00 (fmtL 64) [] (-1)) := Lib.hid ⟨hgb, hs_new 64 (by omega) (by omega)⟩
   have SA4 : Hid (St w w4 ga ma sa qa ca 64 (pgNew 64) 0 t00 (fmtL 64) [] (-1)) := Lib.hid ⟨SA3.out.gv.below hb4, SA3.out.hs⟩
   have B4 := Lib.hid (below_base B3.out B3.out.size hb4)
   have hob := hgb.ord
   have HO : Hid ((w.heap.size ≤ ga ∧ w.heap.size ≤ ma ∧ w.heap.size ≤ gb ∧ w.heap.size ≤ mb) ∧ (gb ≠ ga ∧ gb ≠ ma ∧ gb ≠ sa ∧ gb ≠ qa ∧ gb ≠ gtab ∧ mb ≠ ga ∧ mb ≠ ma ∧ mb ≠ sa ∧ mb ≠ qa ∧ mb ≠ gtab) ∧ (ga ≠ sb ∧ ga ≠ qb ∧ ga ≠ gtab ∧ ma ≠ sb ∧ ma ≠ qb ∧ ma ≠ gtab)) := Lib.hid (by
    have h3 := B2.out.size
    refine ⟨?_, ?_, ?_⟩ <;> omega)
   clear hgb hb4 hob hoa hla hl2 hsa hqa hsb hqb hgla hmla hglb hmlb
   go_wp2_with fail
   obtain ⟨r, hr⟩ : ∃ r : Nat, r = rot n tn := ⟨_, rfl⟩
   have HR := Lib.hid hr
   clear hr
   go_loopw [47] (fun v47 wr => ∃ (k : Nat) (t1 : Tri) (m1 : List UInt8) (p1 : Nat → Pag) (D1 : Nat) (J1 : List (List UInt8)) (t2 : Tri) (m2 : List UInt8) (p2 : Nat → Pag) (D2 : Nat) (J2 : List (List UInt8)), v47 = .int .i64 (k : Nat) ∧ k ≤ n ∧
    Hid (Kv t1 id J1) ∧ Hid (Kv t2 id J2) ∧ Hid (∀ q, q ∈ J1 ↔ ∃ i, i < k ∧ q = T i) ∧ Hid (∀ q, q ∈ J2 ↔ ∃ i, i < k ∧ q = T ((i + r) % n)) ∧ Hid (St w wr ga ma sa qa ca 64 p1 D1 t1 m1 [] (-1)) ∧ Hid (St w wr gb mb sb qb cb 64 p2 D2 t2 m2 [] (-1)) ∧ Hid (Below w.heap.size w wr)) (fun v47 _ => n - (intOf v47).toNat)
   case atStart => exact ⟨0, t00, fmtL 64, pgNew 64, 0, [], t00, fmtL 64, pgNew 64, 0, [], rfl, Nat.zero_le _, Lib.hid (Kv.new _), Lib.hid (Kv.new _), Lib.hid (fun q => by simp), Lib.hid (fun q => by simp), SA4, SB4, B4⟩
   case round =>
    clear SA3 SA4 SB4 S1 S2 S3 R2 T1 T2 T3 Tz B1 B2 B3 B4 Bz0
    obtain ⟨k, t1, m1, p1, D1, J1, t2, m2, p2, D2, J2, rfl, hk, V1, V2, I1, I2, S1, S2, B0⟩ := hrel
    by_cases hlt : k < n
    · have hkI : (k : Int) < (n : Int) := by omega
      have i1 : IntKind.i64.wrap ((k : Int) + 1) = (k : Int) + 1 := IntWalk.i64_in _ (by omega)
      have hn0 : ¬ (n : Int) = 0 := by omega
      obtain ⟨kb, ko, hA, hkb, hc⟩ := HT.out.2 (by omega)
      subst hA
      have cK := (B0.out.cell hkb).trans (hc k hlt)
      obtain ⟨j, hj⟩ : ∃ j : Nat, j = (k + r) % n := ⟨_, rfl⟩
      have hjn : j < n := by rw [hj]; exact Nat.mod_lt _ (by omega)
      have hJ := rot_at n k tn (by omega) (by omega) hlt
      rw [← HR.out, ← hj] at hJ
      have cJ := (B0.out.cell hkb).trans (hc j hjn)
      have hjI : (j : Int) < (n : Int) := by omega
      have hk1 := fun W => key_any (T k) W
      have hk2 := fun W => key_any (T j) W
      have hs1 := fun (hko : keyOk (T k)) W (hW : St w W ga ma sa qa ca 64 p1 D1 t1 m1 [] (-1)) => kv_set w W ga ma sa qa ca D1 p1 t1 m1 id J1 (T k) hW V1.out hko (by have := hko.2; show (T k).length ≤ 40; omega)
      have hs2 := fun (hko : keyOk (T j)) W (hW : St w W gb mb sb qb cb 64 p2 D2 t2 m2 [] (-1)) => kv_set w W gb mb sb qb cb D2 p2 t2 m2 id J2 (T j) hW V2.out hko (by have := hko.2; show (T j).length ≤ 40; omega)
      simp only [id] at hs1 hs2
      obtain ⟨U, hU⟩ : ∃ U, U = str (T k) := ⟨_, rfl⟩
      obtain ⟨V, hV⟩ : ∃ V, V = str (T j) := ⟨_, rfl⟩
      rw [← hU] at cK
      rw [← hV] at cJ
      simp only [← hU] at hk1 hs1
      simp only [← hV] at hk2 hs2
      have Hk1 := Lib.hid hk1
      have Hk2 := Lib.hid hk2
      have Hs1 := Lib.hid hs1
      have Hs2 := Lib.hid hs2
      have HJ2 := Lib.hid hj
      clear hU hV hc hk1 hk2 hs1 hs2 hj
      have hk1 := Hk1.out
      go_wp2_with fail
      with_reducible refine (Hk1.out _).mono ?_
      rintro e w5 ⟨rfl, rfl⟩
      by_cases hko : keyOk (T k)
      · rw [decide_eq_true hko]
        have HK1 := Lib.hid hko
        clear hko
        go_wp2_with fail
        with_reducible refine (Hk2.out _).mono ?_
        rintro e w6 ⟨rfl, rfl⟩
        by_cases hko2 : keyOk (T j)
        · rw [decide_eq_true hko2]
          have HK2 := Lib.hid hko2
          clear hko2
          go_wp2_with fail
          have lK : kb < w6.heap.size := Nat.lt_of_lt_of_le hkb B0.out.size
          refine Ra.wp_region_A (S := (fun W => W.cell? ⟨kb, ko + k, none⟩ = some (.string U) ∧ kb < W.heap.size)) [4, 8, 9] (by kernel_rfl) (⟨cK, lK⟩) (fun hHeld => ?_)
          refine Ra.WT 0 ?_ ?_ ?_
          rotate_left
          · intro wq hSw
            go_simp
            try with_reducible rfl
          try simp only [Act.put, List.getElem_toArray, List.getElem_cons_succ, List.getElem_cons_zero, List.setIfInBounds_toArray, List.set_cons_zero, List.set_cons_succ]
          refine Ra.WT 1 ?_ ?_ ?_
          rotate_left
          · intro wq hSw
            go_simp
            try with_reducible rfl
          try simp only [Act.put, List.getElem_toArray, List.getElem_cons_succ, List.getElem_cons_zero, List.setIfInBounds_toArray, List.set_cons_zero, List.set_cons_succ]
          refine Ra.WT 2 ?_ ?_ ?_
          rotate_left
          · intro wq hSw
            go_simp
            try with_reducible rfl
          try simp only [Act.put, List.getElem_toArray, List.getElem_cons_succ, List.getElem_cons_zero, List.setIfInBounds_toArray, List.set_cons_zero, List.set_cons_succ]
          refine Ra.WT 3 ?_ ?_ ?_
          rotate_left
          · intro wq hSw
            go_simp
            try with_reducible rfl
          try simp only [Act.put, List.getElem_toArray, List.getElem_cons_succ, List.getElem_cons_zero, List.setIfInBounds_toArray, List.set_cons_zero, List.set_cons_succ]
          refine Ra.WT 5 ?_ ?_ ?_
          rotate_left
          · intro wq hSw
            go_simp
            try with_reducible rfl
          try simp only [Act.put, List.getElem_toArray, List.getElem_cons_succ, List.getElem_cons_zero, List.setIfInBounds_toArray, List.set_cons_zero, List.set_cons_succ]
          refine Ra.WT 6 ?_ ?_ ?_
          rotate_left
          · intro wq hSw
            go_simp
            try with_reducible rfl
          try simp only [Act.put, List.getElem_toArray, List.getElem_cons_succ, List.getElem_cons_zero, List.setIfInBounds_toArray, List.set_cons_zero, List.set_cons_succ]
          refine Ra.WT 7 ?_ ?_ ?_
          rotate_left
          · intro wq hSw
            go_simp
            try with_reducible rfl
          try simp only [Act.put, List.getElem_toArray, List.getElem_cons_succ, List.getElem_cons_zero, List.setIfInBounds_toArray, List.set_cons_zero, List.set_cons_succ]
          refine Ra.WA 4 ?_ ?_ hHeld ?_
          rotate_left
          · intro wq hSw
            have hSc := hSw.1; have hSl := hSw.2
            go_simp
            try with_reducible rfl
          try simp only [Act.put, List.getElem_toArray, List.getElem_cons_succ, List.getElem_cons_zero, List.setIfInBounds_toArray, List.set_cons_zero, List.set_cons_succ]
          refine Ra.WA 8 ?_ ?_ hHeld ?_
          rotate_left
          · intro wq hSw
            have hSc := hSw.1; have hSl := hSw.2
            go_simp
            try with_reducible rfl
          try simp only [Act.put, List.getElem_toArray, List.getElem_cons_succ, List.getElem_cons_zero, List.setIfInBounds_toArray, List.set_cons_zero, List.set_cons_succ]
          refine Ra.WA 9 ?_ ?_ hHeld ?_
          rotate_left
          · intro wq hSw
            go_simp
            try with_reducible rfl
          try simp only [Act.put, List.getElem_toArray, List.getElem_cons_succ, List.getElem_cons_zero, List.setIfInBounds_toArray, List.set_cons_zero, List.set_cons_succ]
          refine Ra.wpA_ready (rs := [10]) (by kernel_rfl) (by simp) ?_
          refine Ra.AllReadyA.late rfl rfl (fun K hK => ?_) Ra.AllReadyA.nil
          rw [if_pos (by kernel_rfl)]
          go_simp
          (with_reducible refine (Hs1.out HK1.out _ ⟨S1.out.gv.below (below_dr (Below.refl _ _)), S1.out.hs⟩).mono ?_)
          rintro e w7 ⟨E1, rfl, wk7, or7⟩
          go_simp
          refine hK.out _ _ (trivial) (fun hHeld2 => ?_)
          clear hK K
          try clear hHeld
          have hHeld := hHeld2
          try clear hHeld2
          refine Ra.WT 11 ?_ ?_ ?_
          rotate_left
          · intro wq hSw
            go_simp
            try with_reducible rfl
          try simp only [Act.put, List.getElem_toArray, List.getElem_cons_succ, List.getElem_cons_zero, List.setIfInBounds_toArray, List.set_cons_zero, List.set_cons_succ]
          refine Ra.wpA_done (by kernel_rfl) ?_ _
          have K7 := (Keep.of_below (S := fun i => i = ga ∨ i = ma) (below_dr (Below.refl _ w6))).trans wk7.keep
          have S27 : Hid (St w w7 gb mb sb qb cb 64 p2 D2 t2 m2 [] (-1)) := Lib.hid ⟨S2.out.gv.keep K7 (by have h := HO.out; rintro i (rfl | rfl) <;> omega), S2.out.hs⟩
          have B7 := Lib.hid (below_keep B0.out B0.out.size K7 (by have h := HO.out; rintro i (rfl | rfl) <;> omega))
          have O7 := Lib.hid or7
          have cJ7 := (B7.out.cell hkb).trans ((B0.out.cell hkb).symm.trans cJ)
          have lJ : kb < w7.heap.size := Nat.lt_of_lt_of_le hkb B7.out.size
          clear wk7 or7 K7 S1 S2 cK cJ lK
          try clear hHeld
          go_wp2_with fail
          refine Ra.wp_region_A (S := (fun W => W.cell? ⟨kb, ko + j, none⟩ = some (.string V) ∧ kb < W.heap.size)) [4, 8, 9] (by kernel_rfl) (⟨cJ7, lJ⟩) (fun hHeld => ?_)
          refine Ra.WT 0 ?_ ?_ ?_
          rotate_left
          · intro wq hSw
            go_simp
            try with_reducible rfl
          try simp only [Act.put, List.getElem_toArray, List.getElem_cons_succ, List.getElem_cons_zero, List.setIfInBounds_toArray, List.set_cons_zero, List.set_cons_succ]
          refine Ra.WT 1 ?_ ?_ ?_
          rotate_left
          · intro wq hSw
            go_simp
            try with_reducible rfl
          try simp only [Act.put, List.getElem_toArray, List.getElem_cons_succ, List.getElem_cons_zero, List.setIfInBounds_toArray, List.set_cons_zero, List.set_cons_succ]
          refine Ra.WT 2 ?_ ?_ ?_
          rotate_left
          · intro wq hSw
            go_simp
            try with_reducible rfl
          try simp only [Act.put, List.getElem_toArray, List.getElem_cons_succ, List.getElem_cons_zero, List.setIfInBounds_toArray, List.set_cons_zero, List.set_cons_succ]
          refine Ra.WT 3 ?_ ?_ ?_
          rotate_left
          · intro wq hSw
            go_simp
            try with_reducible rfl
          try simp only [Act.put, List.getElem_toArray, List.getElem_cons_succ, List.getElem_cons_zero, List.setIfInBounds_toArray, List.set_cons_zero, List.set_cons_succ]
          refine Ra.WT 5 ?_ ?_ ?_
          rotate_left
          · intro wq hSw
            go_simp
            try with_reducible rfl
          try simp only [Act.put, List.getElem_toArray, List.getElem_cons_succ, List.getElem_cons_zero, List.setIfInBounds_toArray, List.set_cons_zero, List.set_cons_succ]
          refine Ra.WT 6 ?_ ?_ ?_
          rotate_left
          · intro wq hSw
            go_simp
            try with_reducible rfl
          try simp only [Act.put, List.getElem_toArray, List.getElem_cons_succ, List.getElem_cons_zero, List.setIfInBounds_toArray, List.set_cons_zero, List.set_cons_succ]
          refine Ra.WT 7 ?_ ?_ ?_
          rotate_left
          · intro wq hSw
            go_simp
            try with_reducible rfl
          try simp only [Act.put, List.getElem_toArray, List.getElem_cons_succ, List.getElem_cons_zero, List.setIfInBounds_toArray, List.set_cons_zero, List.set_cons_succ]
          refine Ra.WA 4 ?_ ?_ hHeld ?_
          rotate_left
          · intro wq hSw
            have hSc := hSw.1; have hSl := hSw.2
            go_simp
            try with_reducible rfl
          try simp only [Act.put, List.getElem_toArray, List.getElem_cons_succ, List.getElem_cons_zero, List.setIfInBounds_toArray, List.set_cons_zero, List.set_cons_succ]
          refine Ra.WA 8 ?_ ?_ hHeld ?_
          rotate_left
          · intro wq hSw
            have hSc := hSw.1; have hSl := hSw.2
            go_simp
            try with_reducible rfl
          try simp only [Act.put, List.getElem_toArray, List.getElem_cons_succ, List.getElem_cons_zero, List.setIfInBounds_toArray, List.set_cons_zero, List.set_cons_succ]
          refine Ra.WA 9 ?_ ?_ hHeld ?_
          rotate_left
          · intro wq hSw
            go_simp
            try with_reducible rfl
          try simp only [Act.put, List.getElem_toArray, List.getElem_cons_succ, List.getElem_cons_zero, List.setIfInBounds_toArray, List.set_cons_zero, List.set_cons_succ]
          refine Ra.wpA_ready (rs := [10]) (by kernel_rfl) (by simp) ?_
          refine Ra.AllReadyA.late rfl rfl (fun K hK => ?_) Ra.AllReadyA.nil
          rw [if_pos (by kernel_rfl)]
          go_simp
          (with_reducible refine (Hs2.out HK2.out _ ⟨S27.out.gv.below (below_dr (Below.refl _ _)), S27.out.hs⟩).mono ?_)
          rintro e w8 ⟨E2, rfl, wk8, or8⟩
          go_simp
          refine hK.out _ _ (trivial) (fun hHeld2 => ?_)
          clear hK K
          try clear hHeld
          have hHeld := hHeld2
          try clear hHeld2
          refine Ra.WT 11 ?_ ?_ ?_
          rotate_left
          · intro wq hSw
            go_simp
            try with_reducible rfl
          try simp only [Act.put, List.getElem_toArray, List.getElem_cons_succ, List.getElem_cons_zero, List.setIfInBounds_toArray, List.set_cons_zero, List.set_cons_succ]
          refine Ra.wpA_done (by kernel_rfl) ?_ _
          have K8 := (Keep.of_below (S := fun i => i = gb ∨ i = mb) (below_dr (Below.refl _ w7))).trans wk8.keep
          have B8 := Lib.hid (below_keep B7.out B7.out.size K8 (by have h := HO.out; rintro i (rfl | rfl) <;> omega))
          have KK := Lib.hid K8
          have O8 := Lib.hid or8
          clear wk8 or8 K8 S27 cJ7 lJ
          try clear hHeld
          rcases O7.out with ⟨rfl, p1', D1', t1', m1', st7, kv7⟩ | rfl
          · rcases O8.out with ⟨rfl, p2', D2', t2', m2', st8, kv8⟩ | rfl
            · have S18 : Hid (St w w8 ga ma sa qa ca 64 p1' D1' t1' m1' [] (-1)) := Lib.hid ⟨st7.gv.keep KK.out (by have h := HO.out; rintro i (rfl | rfl) <;> omega), st7.hs⟩
              have S28 := Lib.hid st8
              have V18 := Lib.hid kv7
              have V28 := Lib.hid kv8
              have I18 : Hid (∀ q, q ∈ T k :: J1 ↔ ∃ i, i < k + 1 ∧ q = T i) := Lib.hid (fun q => by
               rw [List.mem_cons, I1.out q]
               constructor
               · rintro (rfl | ⟨i, h1, h2⟩)
                 · exact ⟨k, by omega, rfl⟩
                 · exact ⟨i, by omega, h2⟩
               · rintro ⟨i, h1, h2⟩
                 by_cases e : i = k
                 · subst e; exact .inl h2
                 · exact .inr ⟨i, by omega, h2⟩)
              have I28 : Hid (∀ q, q ∈ T j :: J2 ↔ ∃ i, i < k + 1 ∧ q = T ((i + r) % n)) := Lib.hid (fun q => by
               rw [List.mem_cons, I2.out q]
               constructor
               · rintro (rfl | ⟨i, h1, h2⟩)
                 · exact ⟨k, by omega, by rw [HJ2.out]⟩
                 · exact ⟨i, by omega, h2⟩
               · rintro ⟨i, h1, h2⟩
                 by_cases e : i = k
                 · subst e; exact .inl (by rw [h2, HJ2.out])
                 · exact .inr ⟨i, by omega, h2⟩)
              clear O7 O8 st7 st8 kv7 kv8 KK hJ
              go_wp2_with fail
              go_roundw
              case rel => exact ⟨k + 1, t1', m1', p1', D1', T k :: J1, t2', m2', p2', D2', T j :: J2, by go_num, by omega, V18, V28, I18, I28, S18, S28, B8⟩
              case measure => clear i1; simp [intOf]; omega
            · clear O7 O8 st7 kv7 KK hJ
              go_wp2_with fail
              go_ret
              exact ⟨rfl, B8.out⟩
          · clear O7 O8 KK hJ
            go_wp2_with fail
            go_ret
            exact ⟨rfl, B8.out⟩
        · rw [decide_eq_false hko2]
          clear hko2
          go_wp2_with fail
          go_ret
          exact ⟨rfl, B0.out⟩
      · rw [decide_eq_false hko]
        clear hko
        go_wp2_with fail
        go_ret
        exact ⟨rfl, B0.out⟩
    · have hkn : ¬ (k : Int) < (n : Int) := by omega
      have hk2 : k = n := by omega
      have hsame : ∀ q, lookT t1 q = lookT t2 q := V1.out.same V2.out (fun q => by
       rw [I1.out q, I2.out q, hk2]
       exact rot_all n r T (by rw [HR.out]; exact rot_lt n tn (by omega)) q)
      have hd1 := kv_dump w wr ga ma sa qa ca D1 p1 t1 m1 id J1 S1.out V1.out
      have hd2 := fun W (hW : St w W gb mb sb qb cb 64 p2 D2 t2 m2 [] (-1)) => kv_dump w W gb mb sb qb cb D2 p2 t2 m2 id J2 hW V2.out
      have hc1 := fun W (hW : St w W ga ma sa qa ca 64 p1 D1 t1 m1 [] (-1)) => kv_check w W ga ma sa qa ca D1 p1 t1 m1 id J1 hW V1.out
      have hc2 := fun W (hW : St w W gb mb sb qb cb 64 p2 D2 t2 m2 [] (-1)) => kv_check w W gb mb sb qb cb D2 p2 t2 m2 id J2 hW V2.out
      have Hd2 := Lib.hid hd2
      have Hc1 := Lib.hid hc1
      have Hc2 := Lib.hid hc2
      have HSM := Lib.hid hsame
      clear hlt hk2 hsame hd2 hc1 hc2 V1 V2 I1 I2 HT Hal Ht
      go_wp2_with fail
      with_reducible refine hd1.mono ?_
      rintro e w5 ⟨A1, c1, es1, rfl, hl1, hE1, hP1, hS1, st5, hb5⟩
      have S15 := Lib.hid st5
      have S25 : Hid (St w w5 gb mb sb qb cb 64 p2 D2 t2 m2 [] (-1)) := Lib.hid ⟨S2.out.gv.below hb5, S2.out.hs⟩
      have B5 := Lib.hid (below_base B0.out B0.out.size hb5)
      have E15 := Lib.hid hE1
      have P1 := Lib.hid (And.intro hP1 hS1)
      have L1 := Lib.hid hl1
      have hdd := Hd2.out _ S25.out
      clear hd1 hl1 hE1 hP1 hS1 st5 hb5 S1 S2 B0
      go_wp2_with fail
      with_reducible refine hdd.mono ?_
      rintro e w6 ⟨A2, c2, es2, rfl, hl2, hE2, hP2, hS2, st6, hb6⟩
      obtain rfl : es1 = es2 := dump_same S15.out.hs.tb S25.out.hs.tb HSM.out Cel.val P1.out.1 hP2 P1.out.2 hS2
      have S16 : Hid (St w w6 ga ma sa qa ca 64 p1 D1 t1 m1 [] (-1)) := Lib.hid ⟨S15.out.gv.below hb6, S15.out.hs⟩
      have S26 := Lib.hid st6
      have B6 := Lib.hid (below_base B5.out B5.out.size hb6)
      have hse := sameEnts_eq A1 A2 c1 c2 es1.length es1 w6 rfl hl2 (E15.out.below hb6) hE2
      clear hdd hl2 hE2 hP2 hS2 st6 hb6 S15 S25 B5 E15 P1 L1
      go_wp2_with fail
      with_reducible refine hse.mono ?_
      rintro e w7 ⟨rfl, hb7⟩
      have hcc := Hc1.out w7 ⟨S16.out.gv.below hb7, S16.out.hs⟩
      have S27 : Hid (St w w7 gb mb sb qb cb 64 p2 D2 t2 m2 [] (-1)) := Lib.hid ⟨S26.out.gv.below hb7, S26.out.hs⟩
      have B7 := Lib.hid (below_base B6.out B6.out.size hb7)
      clear hse hb7 S16 S26 B6
      go_wp2_with fail
      with_reducible refine hcc.mono ?_
      rintro e w8 ⟨rfl, _, hb8⟩
      have hcd := Hc2.out w8 ⟨S27.out.gv.below hb8, S27.out.hs⟩
      have B8 := Lib.hid (below_base B7.out B7.out.size hb8)
      clear hcc hb8 S27 B7
      go_wp2_with fail
      with_reducible refine hcd.mono ?_
      rintro e w9 ⟨rfl, _, hb9⟩
      have B9 := Lib.hid (below_base B8.out B8.out.size hb9)
      clear hcd hb9 B8
      go_wp2_with fail
      go_ret
      exact ⟨rfl, B9.out⟩
theorem order_law (A : Option Addr) (n cp : Nat) (Tx : Nat → ByteArray) (tn : Int) (w : World) (ht : Tab w) (hn64 : n ≤ maxLen) (hs : ∀ j, j < n → (Tx j).size ≤ maxLen) (hT : 0 < n → ∃ b off, A = some ⟨b, off, none⟩ ∧ b < w.heap.size ∧ ∀ j, j < n → w.cell? ⟨b, off + j, none⟩ = some (.string (Tx j))) :
 Calls Tryz.prog 3 #[.slice A n cp, .int .i64 tn] w fun e w' => e = .returned (.bool true) ∧ Below w.heap.size w w' :=
 order_any A n cp tn (fun j => (Tx j).data.toList) w ht hn64 ⟨fun j hj => by rw [← str_of]; exact hs j hj, fun h0 => by
  obtain ⟨b, off, h1, h2, h3⟩ := hT h0
  exact ⟨b, off, h1, h2, fun j hj => by rw [← str_of]; exact h3 j hj⟩⟩
end Go.Proofs.YtijhamllnnilbaaGreatDoor.Ha
