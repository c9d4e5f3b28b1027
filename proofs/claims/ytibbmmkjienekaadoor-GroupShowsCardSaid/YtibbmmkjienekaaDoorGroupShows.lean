/- The walk of GroupShows. (Printed by tools/gen_gs.py.) -/
import Derived.Test.YtibbmmkjienekaaDoorGrAlive
import Derived.Test.YtibbmmkjienekaaDoorPagRight
namespace Go.Proofs.YtibbmmkjienekaaDoor.Gr
open Go.RowKit Go.Proofs.YtibbmmkjienekaaDoor.Mem Go.Proofs.YtibbmmkjienekaaDoor.Pg Go.Proofs.YtibbmmkjienekaaDoor.Kp Go.Proofs.YtibbmmkjienekaaDoor.Sp
set_option linter.unusedSimpArgs false
set_option linter.unusedVariables false
noncomputable def cShow7 : Code := sub (Tryd.f4.body.getD .skip) [.r, .r, .r, .r, .r]
abbrev bx (k d x : Int) (s : ByteArray) : Obj := .cells #[.int .i64 k, .int .i64 d, .int .i64 x, .string s] 23 (0, 0)
/-- Two groups over one store, and two pages. -/
structure Two (w0 w : World) (gb mb gh mh sb qb c pa pb : Nat) (M : Int → Option (List UInt8)) (oa ob : Obj) : Prop where
  tab : Tab w
  sto : Sto w sb qb 16 c (-1) (B0 16)
  g : Grp w gb mb sb M 0
  h : Grp w gh mh sb none0 0
  ka : w.heap[pa]? = some oa
  kb : w.heap[pb]? = some ob
  bel : Below w0.heap.size w0 w
  ord : w0.heap.size ≤ mb ∧ pa < mb ∧ pb < mb ∧ sb < mb ∧ qb < mb ∧ gtab < mb ∧ gh ≠ mb ∧ mh ≠ mb
section
variable {w0 w w' : World} {gb mb gh mh sb qb c pa pb : Nat} {M M' : Int → Option (List UInt8)} {oa ob : Obj}
theorem Two.below (t : Two w0 w gb mb gh mh sb qb c pa pb M oa ob) (k : Below w.heap.size w w') : Two w0 w' gb mb gh mh sb qb c pa pb M oa ob :=
  ⟨t.tab.below k, t.sto.below k, t.g.below k, t.h.below k, blk_keep t.ka k, blk_keep t.kb k, below_base t.bel t.bel.size k, t.ord⟩
theorem Two.put (t : Two w0 w gb mb gh mh sb qb c pa pb M oa ob) (k : Keep (fun j => j = mb) w w') (g : Grp w' gb mb sb M' 0) : Two w0 w' gb mb gh mh sb qb c pa pb M' oa ob := by
  have o := t.ord
  exact ⟨t.tab.keep k (by omega), t.sto.keep k (by omega) (by omega), g, t.h.keep k (by omega) (by omega), k.blk t.ka (by omega), k.blk t.kb (by omega), below_keep t.bel t.bel.size k (fun i hi => by omega), o⟩
end
theorem show_at {n : Int} (h0 : 0 ≤ n) (h1 : n ≤ 15) : ∃ b p, rd 16 (-1) (B0 16) n = (b, 0) ∧ Shows b p := by
  obtain ⟨m, rfl⟩ := Int.eq_ofNat_of_zero_le h0
  rw [rd_in (by omega)]
  unfold B0
  split
  · exact ⟨_, _, rfl, .inl ⟨newPage_ok 16, rfl⟩⟩
  · exact ⟨_, Pag.zero, rfl, .inr ⟨rfl, rfl⟩⟩
theorem pats_none {n : Nat} {dead : Int} {B : Nat → List UInt8} {l : List Int} (h : ∀ i, i ∈ l ↔ none0 i ≠ none) : pats n dead B none0 l = [] := by
  have : l = [] := by
    rcases l with _ | ⟨a, t⟩
    · rfl
    · exact absurd rfl ((h a).1 (by simp))
  rw [this]
  rfl
theorem pats_one {n : Nat} {dead : Int} {B : Nat → List UInt8} {M : Int → Option (List UInt8)} {l : List Int} {i : Int} (hp : l.Pairwise (· < ·)) (hl : ∀ j, j ∈ l ↔ M j ≠ none) (hM : ∀ j, M j ≠ none ↔ j = i) : (pats n dead B M l).length ≤ 1 := by
  rw [only_one hp hl hM]
  exact pats_le _ _ _ _ [i]
set_option maxRecDepth 1000000 in
set_option maxHeartbeats 8000000 in
theorem show7 (w w0 : World) (gb mb gh mh sb qb c pa pb : Nat) (n : Int) (a b : Pag) (hn : (Lit.int .i64 n).wf = true) (h0 : 0 ≤ n) (h1 : n ≤ 15) (ha : a.ok) (hb : b.ok) (H : Two w0 w gb mb gh mh sb qb c pa pb none0 (bx a.k a.d a.x (str a.l)) (bx b.k b.d b.x (str b.l)))
    (u1 u2 u3 u6 u10 u11 u12 u13 u14 u15 u16 u17 u18 u19 u20 u21 u22 u23 u24 u25 u26 u27 u28 u29 u30 u31 u32 u33 u34 u35 u36 u37 u38 u39 u40 u41 u42 u43 u44 u45 u46 u47 u48 u49 u50 u51 u52 u53 u54 u55 u56 u57 u58 u59 u60 u61 u62 u63 u64 u65 u66 u67 u68 u69 u70 u71 u72 u73 u74 u75 u76 u77 u78 u79 u80 u81 u82 u83 u84 u85 u86 u87 u88 u89 u90 u91 u92 u93 u94 u95 u96 u97 u98 u99 u100 u101 u102 u103 u104 u105 u106 u107 u108 u109 u110 u111 u112 u113 u114 u115 u116 u117 u118 u119 u120 u121 u122 u123 u124 u125 u126 u127 u128 u129 u130 u131 : Value) :
    Code.wp Tryd.prog cShow7 (bodyPost Tryd.prog Tryd.f4 (fun e w' => e = .returned (.bool true) ∧ Below w0.heap.size w0 w')) ⟨#[.int .i64 n, u1, u2, u3, .pointer (some ⟨pa, 0, none⟩), .pointer (some ⟨pb, 0, none⟩), u6, .pointer (some ⟨sb, 0, none⟩), .pointer (some ⟨gb, 0, none⟩), .pointer (some ⟨gh, 0, none⟩), u10, u11, u12, u13, u14, u15, u16, u17, u18, u19, u20, u21, u22, u23, u24, u25, u26, u27, u28, u29, u30, u31, u32, u33, u34, u35, u36, u37, u38, u39, u40, u41, u42, u43, u44, u45, u46, u47, u48, u49, u50, u51, u52, u53, u54, u55, u56, u57, u58, u59, u60, u61, u62, u63, u64, u65, u66, u67, u68, u69, u70, u71, u72, u73, u74, u75, u76, u77, u78, u79, u80, u81, u82, u83, u84, u85, u86, u87, u88, u89, u90, u91, u92, u93, u94, u95, u96, u97, u98, u99, u100, u101, u102, u103, u104, u105, u106, u107, u108, u109, u110, u111, u112, u113, u114, u115, u116, u117, u118, u119, u120, u121, u122, u123, u124, u125, u126, u127, u128, u129, u130, u131], []⟩ w := by
  obtain ⟨bp, p, hrd, hsh⟩ := show_at h0 h1
  have hgh := fun W (s : Two w0 W gb mb gh mh sb qb c pa pb none0 (bx a.k a.d a.x (str a.l)) (bx b.k b.d b.x (str b.l))) => gget_any W gh mh sb qb 16 c (-1) (B0 16) none0 0 n hn s.tab s.sto s.h bp p hrd hsh
  obtain ⟨M1, hM1⟩ : ∃ M1, M1 = upd none0 n a.bytes := ⟨_, rfl⟩
  obtain ⟨M2, hM2⟩ : ∃ M2, M2 = upd M1 n b.bytes := ⟨_, rfl⟩
  have hgh2 := fun W (s : Two w0 W gb mb gh mh sb qb c pa pb M2 (bx a.k a.d a.x (str a.l)) (bx b.k b.d b.x (str b.l))) => gget_any W gh mh sb qb 16 c (-1) (B0 16) none0 0 n hn s.tab s.sto s.h bp p hrd hsh
  have hp1 := fun W (s : Two w0 W gb mb gh mh sb qb c pa pb none0 (bx a.k a.d a.x (str a.l)) (bx b.k b.d b.x (str b.l))) => gput_ok W gb mb sb none0 0 n a s.tab s.g ha h0 (by omega)
  have hp2 := fun W (s : Two w0 W gb mb gh mh sb qb c pa pb M1 (bx a.k a.d a.x (str a.l)) (bx b.k b.d b.x (str b.l))) => gput_ok W gb mb sb M1 0 n b s.tab s.g hb h0 (by omega)
  rw [← hM1] at hp1
  rw [← hM2] at hp2
  have hgg := fun W (s : Two w0 W gb mb gh mh sb qb c pa pb M2 (bx a.k a.d a.x (str a.l)) (bx b.k b.d b.x (str b.l))) => gget_any W gb mb sb qb 16 c (-1) (B0 16) M2 0 n hn s.tab s.sto s.g b.bytes b (by unfold seen; rw [hM2, upd_same]) (.inl ⟨hb, rfl⟩)
  have hby := fun W (s : Two w0 W gb mb gh mh sb qb c pa pb M2 (bx a.k a.d a.x (str a.l)) (bx b.k b.d b.x (str b.l))) => gbytes_any W gh mh sb none0 0 n hn s.h
  have hq1 := fun W (s : Two w0 W gb mb gh mh sb qb c pa pb M2 (bx a.k a.d a.x (str a.l)) (bx b.k b.d b.x (str b.l))) => gpatches_nil W gh mh sb qb 16 c (-1) (B0 16) none0 0 s.sto s.h
  have hq2 := fun W (s : Two w0 W gb mb gh mh sb qb c pa pb M2 (bx a.k a.d a.x (str a.l)) (bx b.k b.d b.x (str b.l))) => gpatches_nil W gb mb sb qb 16 c (-1) (B0 16) M2 0 s.sto s.g
  have HM : Hid (∀ j, M2 j ≠ none ↔ j = n) := Lib.hid (fun j => by
    rw [hM2, hM1]
    unfold upd
    by_cases e : j = n
    · simp [e]
    · simp [e])
  obtain ⟨ak, ad, ax, al⟩ := a
  obtain ⟨bk, bd, bx', bl⟩ := b
  obtain ⟨pk, pd, px, pl⟩ := p
  simp only [Pag.v] at hgh hgh2 hp1 hp2 hgg H hby hq1 hq2
  obtain ⟨SA, hSA⟩ : ∃ S, S = str al := ⟨_, rfl⟩
  obtain ⟨SB, hSB⟩ : ∃ S, S = str bl := ⟨_, rfl⟩
  obtain ⟨SP, hSP⟩ : ∃ S, S = str pl := ⟨_, rfl⟩
  rw [← hSA, ← hSB] at hgh hgh2 hp1 hp2 hgg H hby hq1 hq2
  rw [← hSP] at hgh hgh2
  simp only [Option.getD_none, Option.isSome_none] at hby
  have H0 := Lib.hid H
  have hmb := Lib.hid H.ord
  have ca := blk_cell H.ka
  have cb := blk_cell H.kb
  have za := lt_of_block H.ka
  have zb := lt_of_block H.kb
  clear H hrd hsh hM1 hM2 ha hb hSA hSB hSP h0 h1
  conv => arg 2; whnf
  go_wp2_with fail
  with_reducible refine (hgh _ H0.out).mono ?_
  rintro e w1 ⟨rfl, hb1⟩
  have b1 := below_al hb1 (.cells #[.int .i64 pk, .int .i64 pd, .int .i64 px, .string SP] 23)
  have H1 := Lib.hid (H0.out.below b1)
  have kw := heap_alloc_new w1 (.cells #[.int .i64 pk, .int .i64 pd, .int .i64 px, .string SP] 23)
  have hwm : mb < w1.heap.size := by have := H0.out.g.lt2; have := hb1.size; omega
  clear hb1 b1 ca cb za zb
  have ca := blk_cell H1.out.ka
  have za := lt_of_block H1.out.ka
  obtain ⟨wb, hwb⟩ : ∃ wb, wb = w1.heap.size := ⟨_, rfl⟩
  have KW := Lib.hid kw
  have hwne : Hid (¬ w1.heap.size = mb) := Lib.hid (by omega)
  clear kw hwm hwb wb
  go_wp2_with fail
  with_reducible refine (hp1 _ H1.out).mono ?_
  rintro e w2 ⟨rfl, g2, k2⟩
  have H2 := Lib.hid (H1.out.put k2 g2)
  have KW2 := Lib.hid (k2.blk KW.out hwne.out)
  clear g2 k2 ca za
  have cb := blk_cell H2.out.kb
  have zb := lt_of_block H2.out.kb
  go_wp2_with fail
  with_reducible refine (hp2 _ H2.out).mono ?_
  rintro e w3 ⟨rfl, g3, k3⟩
  have H3 := Lib.hid (H2.out.put k3 g3)
  have KW3 := Lib.hid (k3.blk KW2.out hwne.out)
  clear g3 k3 cb zb
  go_wp2_with fail
  with_reducible refine (hgg _ H3.out).mono ?_
  rintro e w4 ⟨rfl, hb4⟩
  have b4 := below_al hb4 (.cells #[.int .i64 bk, .int .i64 bd, .int .i64 bx', .string SB] 23)
  have H4 := Lib.hid (H3.out.below b4)
  have KW4 := Lib.hid (blk_keep KW3.out b4)
  have KX := Lib.hid (heap_alloc_new w4 (.cells #[.int .i64 bk, .int .i64 bd, .int .i64 bx', .string SB] 23))
  clear hb4 b4
  go_wp2_with fail
  with_reducible refine (hgh2 _ H4.out).mono ?_
  rintro e w5 ⟨rfl, hb5⟩
  have b5 := below_al hb5 (.cells #[.int .i64 pk, .int .i64 pd, .int .i64 px, .string SP] 23)
  have H5 := Lib.hid (H4.out.below b5)
  have KW5 := Lib.hid (blk_keep KW4.out b5)
  have KX5 := Lib.hid (blk_keep KX.out b5)
  have KY := Lib.hid (heap_alloc_new w5 (.cells #[.int .i64 pk, .int .i64 pd, .int .i64 px, .string SP] 23))
  clear hb5 b5
  go_wp2_with fail
  with_reducible refine (hby _ H5.out).mono ?_
  rintro e w6 ⟨rfl, rfl⟩
  have cb := blk_cell H5.out.kb
  have zb := lt_of_block H5.out.kb
  have cw := blk_cell KW5.out
  have zw := lt_of_block KW5.out
  have cx := blk_cell KX5.out
  have zx := lt_of_block KX5.out
  have cy := blk_cell KY.out
  have zy := lt_of_block KY.out
  go_wp2_with fail
  refine (hq1 _ H5.out).mono ?_
  rintro e w7 ⟨v, l, rfl, hlt, hlm, hown, hb7⟩
  rw [pats_none hlm] at hown
  obtain ⟨A, c7, rfl⟩ := own_slice hown
  have H7 := Lib.hid (H5.out.below hb7)
  clear hlt hlm hown hb7 cb zb cw zw cx zx cy zy
  go_wp2_with fail
  refine (hq2 _ H7.out).mono ?_
  rintro e w8 ⟨v, l, rfl, hlt, hlm, hown, hb8⟩
  have hle := pats_one hlt hlm HM.out (n := 16) (dead := -1) (B := B0 16)
  obtain ⟨A8, c8, rfl⟩ := own_slice hown
  generalize (pats 16 (-1) (B0 16) M2 l).length = q at *
  have hq : (q : Int) ≤ 1 := by omega
  have H8 := Lib.hid (H7.out.below hb8)
  clear hlt hlm hown hb8
  go_wp2_with fail
  go_ret
  exact ⟨rfl, H8.out.bel⟩
set_option maxRecDepth 1000000 in
set_option maxHeartbeats 8000000 in
theorem shows_any (n ak ad ax bk bd bx' : Int) (sa sb' : ByteArray) (w : World) (ht : Tab w) (hn : (Lit.int .i64 n).wf = true) :
    Calls Tryd.prog 4 #[.int .i64 n, .agg #[.int .i64 ak, .int .i64 ad, .int .i64 ax, .string sa], .agg #[.int .i64 bk, .int .i64 bd, .int .i64 bx', .string sb']] w fun e w' => e = .returned (.bool true) ∧ Below w.heap.size w w' := by
  rw [str_of sa, str_of sb']
  obtain ⟨la, hla⟩ : ∃ l, l = sa.data.toList := ⟨_, rfl⟩
  obtain ⟨lb, hlb⟩ : ∃ l, l = sb'.data.toList := ⟨_, rfl⟩
  rw [← hla, ← hlb]
  have hza : (str la).size = la.length := str_size la
  have hzb : (str lb).size = lb.length := str_size lb
  have hal := fun W (h : Tab W) => alive_any W h
  have hra := fun W => right_page ⟨ak, ad, ax, la⟩ W
  have hrb := fun W => right_page ⟨bk, bd, bx', lb⟩ W
  simp only [Pag.v] at hra hrb
  obtain ⟨SA, hSA⟩ : ∃ S, S = str la := ⟨_, rfl⟩
  obtain ⟨SB, hSB⟩ : ∃ S, S = str lb := ⟨_, rfl⟩
  rw [← hSA] at hza hra ⊢
  rw [← hSB] at hzb hrb ⊢
  have HSA := Lib.hid hSA
  have HSB := Lib.hid hSB
  have Hn := Lib.hid hn
  obtain ⟨wa, hwa⟩ : ∃ W, W = (w.alloc (.cells #[.int .i64 ak, .int .i64 ad, .int .i64 ax, .string SA] 23)).alloc (.cells #[.int .i64 bk, .int .i64 bd, .int .i64 bx', .string SB] 23) := ⟨_, rfl⟩
  have ba : Below w.heap.size w wa := by rw [hwa]; exact below_al (below_al (Below.refl _ w) _) _
  have ka : wa.heap[w.heap.size]? = some (bx ak ad ax SA) := by rw [hwa]; exact Mem.hal (heap_alloc_new w _)
  have kb : wa.heap[w.heap.size + 1]? = some (bx bk bd bx' SB) := by rw [hwa]; exact second_new w _ _
  have ta := ht.below ba
  have hsz : wa.heap.size = w.heap.size + 2 := by rw [hwa]; simp
  have htl := Lib.hid ht.lt
  have ca := blk_cell ka
  have cb := blk_cell kb
  have za := lt_of_block ka
  have zb := lt_of_block kb
  have BA := Lib.hid ba
  have KA := Lib.hid ka
  have KB := Lib.hid kb
  have TA := Lib.hid ta
  have HSZ := Lib.hid hsz
  have HWA := Lib.hid hwa
  clear ht hn hla hlb hSA hSB ba ka kb ta hsz
  rw [hwa] at ca cb za zb
  clear hwa
  by_cases h0 : n < 0
  · have e0 : decide (n < 0) = true := by simpa using h0
    clear h0
    go_enter Tryd.func4, Tryd.ntmps4
    go_wp2_with fail
    with_reducible refine (hal _ (by have := TA.out; rw [HWA.out] at this; exact this)).mono ?_
    rintro e w9 ⟨rfl, hb9⟩
    have bz := Lib.hid ((below_base BA.out BA.out.size (by rw [HWA.out]; exact hb9)))
    clear hb9
    go_wp2_with fail
    go_ret
    exact ⟨rfl, bz.out⟩
  have e0 : decide (n < 0) = false := by simpa using h0
  by_cases h1 : 15 < n
  · have e1 : decide (15 < n) = true := by simpa using h1
    clear h0 h1
    go_enter Tryd.func4, Tryd.ntmps4
    go_wp2_with fail
    with_reducible refine (hal _ (by have := TA.out; rw [HWA.out] at this; exact this)).mono ?_
    rintro e w9 ⟨rfl, hb9⟩
    have bz := Lib.hid ((below_base BA.out BA.out.size (by rw [HWA.out]; exact hb9)))
    clear hb9
    go_wp2_with fail
    go_ret
    exact ⟨rfl, bz.out⟩
  have e1 : decide (15 < n) = false := by simpa using h1
  by_cases h2 : 300 < la.length
  · have e2 : decide (300 < la.length) = true := by simpa using h2
    have e2' : decide ((300 : Int) < (la.length : Int)) = true := by simp; omega
    clear h0 h1 h2
    go_enter Tryd.func4, Tryd.ntmps4
    go_wp2_with fail
    with_reducible refine (hal _ (by have := TA.out; rw [HWA.out] at this; exact this)).mono ?_
    rintro e w9 ⟨rfl, hb9⟩
    have bz := Lib.hid ((below_base BA.out BA.out.size (by rw [HWA.out]; exact hb9)))
    clear hb9
    go_wp2_with fail
    go_ret
    exact ⟨rfl, bz.out⟩
  have e2 : decide (300 < la.length) = false := by simpa using h2
  have e2' : decide ((300 : Int) < (la.length : Int)) = false := by simp; omega
  by_cases h3 : 300 < lb.length
  · have e3 : decide (300 < lb.length) = true := by simpa using h3
    have e3' : decide ((300 : Int) < (lb.length : Int)) = true := by simp; omega
    clear h0 h1 h2 h3
    go_enter Tryd.func4, Tryd.ntmps4
    go_wp2_with fail
    with_reducible refine (hal _ (by have := TA.out; rw [HWA.out] at this; exact this)).mono ?_
    rintro e w9 ⟨rfl, hb9⟩
    have bz := Lib.hid ((below_base BA.out BA.out.size (by rw [HWA.out]; exact hb9)))
    clear hb9
    go_wp2_with fail
    go_ret
    exact ⟨rfl, bz.out⟩
  have e3 : decide (300 < lb.length) = false := by simpa using h3
  have e3' : decide ((300 : Int) < (lb.length : Int)) = false := by simp; omega
  have Hr := Lib.hid (And.intro h0 h1)
  clear h0 h1 h2 h3
  by_cases h4 : Pag.ok ⟨ak, ad, ax, la⟩
  rotate_left
  · rw [decide_eq_false h4] at hra
    clear h4
    go_enter Tryd.func4, Tryd.ntmps4
    go_wp2_with fail
    with_reducible refine (hra _).mono ?_
    rintro e r1 ⟨rfl, hr1⟩
    rw [← HWA.out] at hr1
    have R1 := Lib.hid hr1
    have cb1 := blk_cell (blk_keep KB.out hr1)
    have zb1 := lt_of_block (blk_keep KB.out hr1)
    clear hr1 ca cb za zb
    go_wp2_with fail
    with_reducible refine (hal _ (TA.out.below R1.out)).mono ?_
    rintro e w9 ⟨rfl, hb9⟩
    have bz := Lib.hid (below_base (below_base BA.out BA.out.size R1.out) (Nat.le_trans BA.out.size R1.out.size) hb9)
    clear hb9
    go_wp2_with fail
    go_ret
    exact ⟨rfl, bz.out⟩
  rw [decide_eq_true h4] at hra
  by_cases h5 : Pag.ok ⟨bk, bd, bx', lb⟩
  rotate_left
  · rw [decide_eq_false h5] at hrb
    clear h4 h5
    go_enter Tryd.func4, Tryd.ntmps4
    go_wp2_with fail
    with_reducible refine (hra _).mono ?_
    rintro e r1 ⟨rfl, hr1⟩
    rw [← HWA.out] at hr1
    have R1 := Lib.hid hr1
    have cb1 := blk_cell (blk_keep KB.out hr1)
    have zb1 := lt_of_block (blk_keep KB.out hr1)
    clear hr1 ca cb za zb
    go_wp2_with fail
    with_reducible refine (hrb _).mono ?_
    rintro e r2 ⟨rfl, hr2⟩
    have R2 := Lib.hid (R1.out.trans (hr2.mono R1.out.size))
    clear hr2 cb1 zb1
    go_wp2_with fail
    with_reducible refine (hal _ (TA.out.below R2.out)).mono ?_
    rintro e w9 ⟨rfl, hb9⟩
    have bz := Lib.hid (below_base (below_base BA.out BA.out.size R2.out) (Nat.le_trans BA.out.size R2.out.size) hb9)
    clear hb9
    go_wp2_with fail
    go_ret
    exact ⟨rfl, bz.out⟩
  rw [decide_eq_true h5] at hrb
  have hnew : ∀ w, Tab w → Calls Tryd.prog 8 #[.int .i64 16] w fun e w' => ∃ sb qb c, e = .returned (.pointer (some ⟨sb, 0, none⟩)) ∧ w.heap.size ≤ sb ∧ w.heap.size ≤ qb ∧ Below w.heap.size w w' ∧ Sto w' sb qb 16 c (-1) (B0 16) := fun w h => snew_any 16 w h (by omega) (by omega)
  go_enter Tryd.func4, Tryd.ntmps4
  go_wp2_with fail
  with_reducible refine (hra _).mono ?_
  rintro e r1 ⟨rfl, hr1⟩
  rw [← HWA.out] at hr1
  have R1 := Lib.hid hr1
  have cb1 := blk_cell (blk_keep KB.out hr1)
  have zb1 := lt_of_block (blk_keep KB.out hr1)
  clear hr1 ca cb za zb
  go_wp2_with fail
  with_reducible refine (hrb _).mono ?_
  rintro e r2 ⟨rfl, hr2⟩
  have R2 := Lib.hid (R1.out.trans (hr2.mono R1.out.size))
  clear hr2 cb1 zb1
  go_wp2_with fail
  with_reducible refine (hal _ (TA.out.below R2.out)).mono ?_
  rintro e w1 ⟨rfl, hb1⟩
  have bw1 := R2.out.trans (hb1.mono R2.out.size)
  have T1 := Lib.hid (TA.out.below bw1)
  have A1 := Lib.hid (blk_keep KA.out bw1)
  have C1 := Lib.hid (blk_keep KB.out bw1)
  have B1 := Lib.hid (below_base BA.out BA.out.size bw1)
  clear hb1 bw1
  go_wp2_with fail
  with_reducible refine (hnew _ T1.out).mono ?_
  rintro e w2 ⟨sb, qb, c, rfl, hsb, hqb, hb2, hs2⟩
  have T2 := Lib.hid (T1.out.below hb2)
  have A2 := Lib.hid (blk_keep A1.out hb2)
  have C2 := Lib.hid (blk_keep C1.out hb2)
  have S2 := Lib.hid hs2
  have B2 := Lib.hid (below_base B1.out B1.out.size hb2)
  clear hb2 hs2 hsb hqb
  go_wp2_with fail
  with_reducible refine (gnew_any _ sb).mono ?_
  rintro e w3 ⟨gb, mb, rfl, hmb, hgb, hne, hb3, hg3⟩
  have T3 := Lib.hid (T2.out.below hb3)
  have A3 := Lib.hid (blk_keep A2.out hb3)
  have C3 := Lib.hid (blk_keep C2.out hb3)
  have S3 := Lib.hid (S2.out.below hb3)
  have G3 := Lib.hid hg3
  have B3 := Lib.hid (below_base B2.out B2.out.size hb3)
  have Hm := Lib.hid (And.intro hmb hgb)
  clear hb3 hg3 hmb hgb hne
  go_wp2_with fail
  with_reducible refine (gnew_any _ sb).mono ?_
  rintro e w4 ⟨gh, mh, rfl, hmh, hgh, hne, hb4, hg4⟩
  have hm3 := G3.out.lt2
  have hord : w.heap.size ≤ mb ∧ w.heap.size < mb ∧ w.heap.size + 1 < mb ∧ sb < mb ∧ qb < mb ∧ gtab < mb ∧ gh ≠ mb ∧ mh ≠ mb := by
    have h1 := Hm.out.1
    have h2 := S2.out.lt1
    have h3 := S2.out.lt2
    have h4 := lt_of_block C2.out
    have h5 := htl.out
    have h6 := lt_of_block A2.out
    omega
  have H4 : Hid (Two w w4 gb mb gh mh sb qb c w.heap.size (w.heap.size + 1) none0 (bx ak ad ax SA) (bx bk bd bx' SB)) := Lib.hid ⟨T3.out.below hb4, S3.out.below hb4, G3.out.below hb4, hg4, blk_keep A3.out hb4, blk_keep C3.out hb4, below_base B3.out B3.out.size hb4, hord⟩
  clear hmh hgh hne hb4 hg4 hm3 hord
  go_upto_if 63 with fail
  refine wp_cond_false rfl (wp_skip ?_)
  dsimp only [Exit.then]
  apply_assumption
  have H5 := H4.out
  rw [HSA.out, HSB.out] at H5
  exact show7 w4 w gb mb gh mh sb qb c w.heap.size (w.heap.size + 1) n ⟨ak, ad, ax, la⟩ ⟨bk, bd, bx', lb⟩ Hn.out (by have := Hr.out; omega) (by have := Hr.out; omega) h4 h5 H5 _ _ _ _ _ _ _ _ _ _ _ _ _ _ _ _ _ _ _ _ _ _ _ _ _ _ _ _ _ _ _ _ _ _ _ _ _ _ _ _ _ _ _ _ _ _ _ _ _ _ _ _ _ _ _ _ _ _ _ _ _ _ _ _ _ _ _ _ _ _ _ _ _ _ _ _ _ _ _ _ _ _ _ _ _ _ _ _ _ _ _ _ _ _ _ _ _ _ _ _ _ _ _ _ _ _ _ _ _ _ _ _ _ _ _ _ _ _ _ _ _ _ _ _ _ _
end Go.Proofs.YtibbmmkjienekaaDoor.Gr
