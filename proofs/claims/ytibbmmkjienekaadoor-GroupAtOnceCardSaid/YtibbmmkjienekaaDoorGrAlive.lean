/- The first call of chapter 18's laws. -/
import Derived.Test.YtibbmmkjienekaaDoorGrPatchesB
import Derived.Test.YtibbmmkjienekaaDoorGrNew
namespace Go.Proofs.YtibbmmkjienekaaDoor.Gr
open Go.RowKit Go.Proofs.YtibbmmkjienekaaDoor.Mem Go.Proofs.YtibbmmkjienekaaDoor.Pg Go.Proofs.YtibbmmkjienekaaDoor.Kp Go.Proofs.YtibbmmkjienekaaDoor.Sp
set_option linter.unusedSimpArgs false
set_option linter.unusedVariables false

abbrev none0 : Int → Option (List UInt8) := fun _ => none
theorem rd_in {n : Nat} {B : Nat → List UInt8} {j : Nat} (h : j < n) : rd n (-1) B j = (B j, 0) := by
  unfold rd
  rw [if_neg (by omega), if_pos ⟨by omega, by omega⟩, Int.toNat_natCast]
theorem newMap (n : Nat) (h : 2 ≤ n) : MapPage n (-1) (B0 n) none0 0 0 (newL n) := by
  refine ⟨⟨Pag.bytes ⟨2, 0, 0, newL n⟩, ?_, .inl ⟨newPage_ok n, rfl⟩⟩⟩
  show rd n (-1) (B0 n) ((1 : Nat) : Int) = _
  rw [rd_in (by omega), B0, if_pos rfl]
theorem takeI_at {n k : Nat} {l : List UInt8} (h : IsMap n l) (hk : k < n) (h1 : ∀ j, j < k → bt l j = 1) (h2 : bt l k = 2) : takeI 2 l = k := by
  rcases takeI_map h with ⟨_, h3⟩ | ⟨i, h3, h4, h5, h6, h7⟩
  · rw [h3 k hk] at h2; simp at h2
  · rcases Nat.lt_trichotomy i k with e | e | e
    · rw [h1 i e] at h6; simp at h6
    · rw [h3, e]
    · rw [h7 k e] at h2; simp at h2
theorem bytes_set (d x : Int) (l : List UInt8) (i : Nat) (b : UInt8) : Pag.bytes ⟨2, d, x, l.set i b⟩ = (Pag.bytes ⟨2, d, x, l⟩).set (16 + i) b := by
  have h1 : (hd 2 d.toNat x.toNat ++ zs 10).length = 16 := by simp [hd, zs_len]
  show hd 2 d.toNat x.toNat ++ zs 10 ++ l.set i b = (hd 2 d.toNat x.toNat ++ zs 10 ++ l).set (16 + i) b
  rw [List.set_append_right _ _ (by omega), h1, show 16 + i - 16 = i by omega]
theorem bt_bytes (d x : Int) (l : List UInt8) (i : Nat) : bt (Pag.bytes ⟨2, d, x, l⟩) (16 + i) = bt l i := by
  have h1 : (hd 2 d.toNat x.toNat ++ zs 10).length = 16 := by simp [hd, zs_len]
  show bt (hd 2 d.toNat x.toNat ++ zs 10 ++ l) (16 + i) = bt l i
  unfold bt
  rw [List.getD_eq_getElem?_getD, List.getD_eq_getElem?_getD, List.getElem?_append_right (by omega), h1, show 16 + i - 16 = i by omega]
/-- One byte of a map page is turned. -/
theorem diff_one {d x : Int} {l : List UInt8} {i : Nat} {b : UInt8} (hi : i < 240) (hl : l.length = 240) (hb : bt l i ≠ (b.toNat : Int)) : IsDiff (Pag.bytes ⟨2, d, x, l⟩) (Pag.bytes ⟨2, d, x, l.set i b⟩) (16 + i) (16 + i + 1) := by
  have h1 : (hd 2 d.toNat x.toNat ++ zs 10).length = 16 := by simp [hd, zs_len]
  have hlen : (Pag.bytes ⟨2, d, x, l⟩).length = 256 := by
    show (hd 2 d.toNat x.toNat ++ zs 10 ++ l).length = 256
    rw [List.length_append, h1, hl]
  have hs := fun j => bt_set (Pag.bytes ⟨2, d, x, l⟩) (16 + i) b (by omega) j
  have hat : bt (Pag.bytes ⟨2, d, x, l⟩) (16 + i) ≠ bt (Pag.bytes ⟨2, d, x, l.set i b⟩) (16 + i) := by
    rw [bytes_set, hs, if_pos rfl, bt_bytes]; exact hb
  refine ⟨by omega, by omega, fun j hj => ?_, hat, fun j hj _ => ?_, by simpa using hat⟩
  · rw [bytes_set, hs, if_neg (by omega)]
  · rw [bytes_set, hs, if_neg (by omega)]
theorem only_one {l : List Int} {M : Int → Option (List UInt8)} {i : Int} (hp : l.Pairwise (· < ·)) (hl : ∀ j, j ∈ l ↔ M j ≠ none) (hM : ∀ j, M j ≠ none ↔ j = i) : l = [i] := by
  have h1 : i ∈ l := (hl i).2 ((hM i).2 rfl)
  have h2 : ∀ j ∈ l, j = i := fun j hj => (hM j).1 ((hl j).1 hj)
  match l, hp, h1, h2 with
  | [], _, h1, _ => cases h1
  | [a], _, _, h2 => rw [h2 a (by simp)]
  | a :: b :: t, hp, _, h2 =>
    have h3 := h2 a (by simp)
    have h4 := h2 b (by simp)
    have h5 := (List.pairwise_cons.1 hp).1 b (by simp)
    omega
theorem cut_one (d x : Int) (l : List UInt8) (i : Nat) (b : UInt8) (hi : i < 240) (hl : l.length = 240) : ((Pag.bytes ⟨2, d, x, l.set i b⟩).take (16 + i + 1)).drop (16 + i) = [b] := by
  have h1 : (hd 2 d.toNat x.toNat ++ zs 10).length = 16 := by simp [hd, zs_len]
  have hlen : (Pag.bytes ⟨2, d, x, l⟩).length = 256 := by
    show (hd 2 d.toNat x.toNat ++ zs 10 ++ l).length = 256
    rw [List.length_append, h1, hl]
  rw [bytes_set]
  apply List.ext_getElem
  · simp [hlen]; omega
  · intro j h2 h3
    obtain rfl : j = 0 := by simpa using h3
    simp

set_option maxRecDepth 100000 in
set_option maxHeartbeats 4000000 in
theorem alive_any (w : World) (ht : Tab w) :
    Calls Tryd.prog 7 #[] w fun e w' => e = .returned (.bool true) ∧ Below w.heap.size w w' := by
  have hnew : ∀ w, Tab w → Calls Tryd.prog 8 #[.int .i64 8] w fun e w' => ∃ sb qb c, e = .returned (.pointer (some ⟨sb, 0, none⟩)) ∧ w.heap.size ≤ sb ∧ w.heap.size ≤ qb ∧ Below w.heap.size w w' ∧ Sto w' sb qb 8 c (-1) (B0 8) := fun w h => snew_any 8 w h (by omega) (by omega)
  have Ht := Lib.hid ht
  clear ht
  go_enter Tryd.func7, Tryd.ntmps7
  go_wp2_with fail
  with_reducible refine (hnew _ Ht.out).mono ?_
  rintro e w1 ⟨sb, qb, c, rfl, hsb, hqb, hb1, hs1⟩
  have T1 := Lib.hid (Ht.out.below hb1)
  have S1 := Lib.hid hs1
  have B1 := Lib.hid hb1
  clear hs1 hb1 hnew
  go_wp2_with fail
  with_reducible refine (gnew_any w1 sb).mono ?_
  rintro e w2 ⟨gb, mb, rfl, hmb, hgb, hne, hb2, hg2⟩
  have T2 := Lib.hid (T1.out.below hb2)
  have S2 := Lib.hid (S1.out.below hb2)
  have G2 := Lib.hid hg2
  have B2 := Lib.hid (below_tr B1.out hb2)
  have hsz1 := B1.out.size
  have hgt : gtab < gb ∧ gtab < mb := by have := T1.out.lt; omega
  have hm : MapPage 8 (-1) (B0 8) none0 0 0 (newL 8) := newMap 8 (by omega)
  have htk : Calls Tryd.prog 16 #[.pointer (some ⟨gb, 0, none⟩)] w2 fun e w' => e = .returned (.tuple #[.int .i64 2, .int .i64 0]) ∧ Grp w' gb mb sb (upd none0 1 (Pag.bytes ⟨2, 0, 0, (newL 8).set 2 1⟩)) 1 ∧ Keep (fun j => j = gb ∨ j = mb) w2 w' :=
    gtake_ok w2 gb mb sb qb 8 c (-1) (B0 8) none0 0 0 0 (newL 8) T2.out S2.out G2.out hm 2 (takeI_at (isMap_new 8 (by omega) (by omega)) (by omega) (fun j hj => by rw [bt_newL 8 (by omega), if_pos (by omega), if_pos hj]) (by rw [bt_newL 8 (by omega)]; rfl)) (by rw [pagesF_map (isMap_new 8 (by omega) (by omega))]; omega) (by omega) hgt
  have hok : Pag.ok ⟨2, 0, 0, (newL 8).set 2 1⟩ := Pag.ok_mk (by omega) (by omega) (by omega) (by rw [List.length_set, newL_len])
  have hmp := MapPage.put 8 (-1) (B0 8) none0 hok rfl
  obtain ⟨M1, hM1⟩ : ∃ M1, M1 = upd none0 1 (Pag.bytes ⟨2, 0, 0, (newL 8).set 2 1⟩) := ⟨_, rfl⟩
  rw [← hM1] at htk hmp
  have Hmp := Lib.hid hmp
  have HM := Lib.hid hM1
  have Hin := Lib.hid (And.intro hsb (And.intro hqb (And.intro hmb (And.intro hgb hne))))
  have Htk := Lib.hid htk
  clear hb2 hg2 hM1 hm hsb hqb hmb hgb hne hmp htk hok
  go_wp2_with fail
  with_reducible refine Htk.out.mono ?_
  rintro e w3 ⟨rfl, g3, k3⟩
  have hl1 := S1.out.lt1
  have hl2 := S1.out.lt2
  have hin := Hin.out
  have S3 := Lib.hid (S2.out.keep k3 (by omega) (by omega))
  have T3 := Lib.hid (T2.out.keep k3 (by omega))
  have G3 := Lib.hid g3
  have B3 := Lib.hid (below_keep B2.out B2.out.size k3 (by omega))
  clear g3 k3 hl1 hl2 hin hgt
  go_wp2_with fail
  with_reducible refine (gpatches_nil w3 gb mb sb qb 8 c (-1) (B0 8) M1 1 S3.out G3.out).mono ?_
  rintro e w4 ⟨v, l, rfl, hlt, hlm, hown, hb4⟩
  obtain rfl : l = [1] := only_one hlt hlm (fun j => by
    rw [HM.out]
    unfold upd
    by_cases e : j = 1
    · simp [e]
    · simp [e])
  have hpats : pats 8 (-1) (B0 8) M1 [1] = [⟨1, 18, [1]⟩] := by
    have h1 : rd 8 (-1) (B0 8) 1 = (B0 8 1, 0) := rd_in (j := 1) (by omega)
    have h2 : B0 8 1 = Pag.bytes ⟨2, 0, 0, newL 8⟩ := if_pos rfl
    have h3 : M1 1 = some (Pag.bytes ⟨2, 0, 0, (newL 8).set 2 1⟩) := by rw [HM.out, upd_same]
    have h4 := diff_one (d := 0) (x := 0) (l := newL 8) (i := 2) (b := 1) (by omega) (newL_len 8) (by rw [bt_newL 8 (by omega)]; decide)
    have h5 := diffP_some (i := 1) (Pag.bytes_len (newPage_ok 8)) (Pag.bytes_len (Pag.ok_mk (k := 2) (d := 0) (x := 0) (l := (newL 8).set 2 1) (by omega) (by omega) (by omega) (by rw [List.length_set, newL_len]))) h4
    rw [cut_one 0 0 (newL 8) 2 1 (by omega) (newL_len 8)] at h5
    simp only [pats, List.filterMap_cons, List.filterMap_nil, h1, h2, h3, Option.getD_some, h5]
  rw [hpats] at hown
  obtain ⟨pg, pc, rfl, hpg⟩ : ∃ pg pc, v = .slice (some ⟨pg, 0, none⟩) 1 pc ∧ w3.heap.size ≤ pg := by
    rcases hown.2 with ⟨_, h⟩ | ⟨g, cap, cur, h1, h2, _⟩
    · simp at h
    · exact ⟨g, cap, h1, h2⟩
  have x0 := own_at hown 0 (.int .i64 1) rfl
  have x1 := own_at hown 1 (.int .i64 18) rfl
  have x2 := own_at hown 2 (.string (str [1])) rfl
  have zp := own_lt hown pg rfl
  have T4 := Lib.hid (T3.out.below hb4)
  have S4 := Lib.hid (S3.out.below hb4)
  have G4 := Lib.hid (G3.out.below hb4)
  have B4 := Lib.hid (below_base B3.out B3.out.size hb4)
  clear hlt hlm hpats hown hpg hb4
  have hfree : Calls Tryd.prog 17 #[.pointer (some ⟨gb, 0, none⟩)] w4 fun e w' => e = .returned (.int .i64 5) ∧ Below w4.heap.size w4 w' := by
    have h := gfree_any w4 gb mb sb qb 8 c (-1) (B0 8) M1 1 _ _ _ T4.out S4.out G4.out Hmp.out
    have h8 : pagesF 2 ((newL 8).set 2 1) = 8 := pagesF_map ((isMap_new 8 (by omega) (by omega)).set 2 1 (by omega) (by omega) (.inl rfl))
    have h5 : List.count 2 (((newL 8).set 2 1).take 8) = 5 := by decide +kernel
    simp only [h8, h5] at h
    exact h
  go_wp2_with fail
  with_reducible refine hfree.mono ?_
  rintro e w5 ⟨rfl, hb5⟩
  have G5 := Lib.hid (G4.out.below hb5)
  have B5 := Lib.hid (below_base B4.out B4.out.size hb5)
  have y0 := (hb5.cell (p := ⟨pg, 0, none⟩) zp).trans x0
  have y1 := (hb5.cell (p := ⟨pg, 1, none⟩) zp).trans x1
  have y2 := (hb5.cell (p := ⟨pg, 2, none⟩) zp).trans x2
  have zq : pg < w5.heap.size := Nat.lt_of_lt_of_le zp hb5.size
  clear x0 x1 x2 zp hb5 hfree
  go_wp2_with fail
  with_reducible refine (gtaken_any w5 gb mb sb M1 1 G5.out).mono ?_
  rintro e w6 ⟨rfl, rfl⟩
  go_wp2_with fail
  go_ret
  exact ⟨rfl, B5.out⟩
end Go.Proofs.YtibbmmkjienekaaDoor.Gr
