/- The walk of GroupTakes. (Printed by tools/gen_gt.py.) -/
import Derived.Test.YtibbmmkjienekaaDoorGrOne
import Derived.Carry
namespace Go.Proofs.YtibbmmkjienekaaDoor.Gr
open Go.RowKit Go.Proofs.YtibbmmkjienekaaDoor.Mem Go.Proofs.YtibbmmkjienekaaDoor.Pg Go.Proofs.YtibbmmkjienekaaDoor.Kp Go.Proofs.YtibbmmkjienekaaDoor.Sp
set_option linter.unusedSimpArgs false
set_option linter.unusedVariables false
noncomputable def cTakes0 : Code := sub (Tryd.f5.body.getD .skip) [.r, .r, .r, .r, .r, .l, .r]
noncomputable def cTakes13 : Code := sub (Tryd.f5.body.getD .skip) [.r, .r, .r, .r, .r, .r]
/-- The pages that are free. -/
def Sl (n : Nat) (l : List UInt8) : Int → Bool := fun i => decide (2 ≤ i ∧ i < n ∧ bt l i.toNat = 2)
theorem Sl_at {n : Nat} {l : List UInt8} {k : Nat} (h2 : 2 ≤ k) (hk : k < n) : Sl n l k = decide (bt l k = 2) := by
  unfold Sl
  rw [Int.toNat_natCast]
  have h3 : (2 : Int) ≤ (k : Int) := by omega
  have h4 : (k : Int) < (n : Int) := by omega
  simp [h3, h4]
theorem Sl_set {n : Nat} {l : List UInt8} {k : Nat} (h2 : 2 ≤ k) (hk : k < n) (hl : n ≤ l.length) : (fun j : Int => j == (k : Int) || Sl n l j) = Sl n (l.set k 2) := by
  funext j
  unfold Sl
  have hb := bt_set l k 2 (by omega) j.toNat
  by_cases h : j = k
  · subst h
    rw [Int.toNat_natCast] at hb ⊢
    rw [if_pos rfl] at hb
    have h3 : (2 : Int) ≤ (k : Int) := by omega
    have h4 : (k : Int) < (n : Int) := by omega
    simp [hb, h3, h4]
  · simp only [beq_eq_false_iff_ne.2 h, Bool.false_or]
    by_cases h5 : 2 ≤ j ∧ j < n
    · rw [if_neg (by omega)] at hb
      rw [hb]
    · have h6 : ¬ (2 ≤ j ∧ j < (n : Int) ∧ bt l j.toNat = 2) := fun e => h5 ⟨e.1, e.2.1⟩
      have h7 : ¬ (2 ≤ j ∧ j < (n : Int) ∧ bt (l.set k 2) j.toNat = 2) := fun e => h5 ⟨e.1, e.2.1⟩
      rw [decide_eq_false h6, decide_eq_false h7]
theorem Sl_self {S : Int → Bool} {i : Int} (h : S i = true) : (fun j : Int => j == i || S j) = S := by
  funext j
  by_cases e : j = i
  · subst e; simp [h]
  · simp [beq_eq_false_iff_ne.2 e]
theorem Sl_none {n : Nat} {l : List UInt8} (h : ∀ i, i < n → bt l i = 1) : Sl n l = fun _ => false := by
  funext j
  unfold Sl
  rw [decide_eq_false]
  rintro ⟨h1, h2, h3⟩
  rw [h j.toNat (by omega)] at h3
  simp at h3
set_option maxRecDepth 1000000 in
set_option maxHeartbeats 8000000 in
theorem takes0 (w w0 : World) (gb mb sb qb c n : Nat) (h8 : 8 ≤ n) (h64 : n ≤ 64) (H : One w0 w gb mb sb qb c n (newL n) 0)
    (u1 u2 u3 u4 u5 u8 u9 u10 u11 u12 u13 u14 u15 u16 u17 u18 u19 u20 u21 u22 u23 u24 u25 u26 u27 u28 u29 u30 u31 u32 u33 u34 u35 u36 u37 u38 u39 u40 u41 u42 u43 u44 u45 u46 u47 u48 u49 u50 u51 u52 u53 u54 u55 u56 u57 u58 u59 u60 u61 u62 u63 u64 u65 u66 u67 u68 u69 u70 u71 u72 u73 u74 u75 u76 u77 u78 u79 u80 u81 u82 u83 u84 u85 u86 u87 u88 u89 u90 u91 u92 u93 u94 u95 u96 u97 u98 u99 u100 u101 u102 u103 u104 u105 u106 u107 u108 u109 u110 u111 u112 u113 u114 u115 u116 u117 u118 u119 u120 u121 u122 u123 u124 u125 u126 u127 u128 u129 u130 u131 u132 u133 u134 u135 u136 u137 u138 u139 : Value) (R : Exit → Act → World → Prop) (hP : Hid (∀ c a d v w, R (.panic c) (Act.put a d v) w → R (.panic c) a w))
    (hR : Hid (∀ (v7 v4 v8 v9 v41 v42 v43 v44 v45 v46 v47 v48 v49 v50 v51 v52 v53 v54 v55 v56 v57 : Value) (w' : World) (l : List UInt8), One w0 w' gb mb sb qb c n l ((n : Int) - 2) → (∀ i, i < n → bt l i = 1) → R .normal ⟨#[.int .i64 n, u1, u2, u3, v4, u5, .pointer (some ⟨gb, 0, none⟩), v7, v8, v9, u10, u11, u12, u13, u14, u15, u16, u17, u18, u19, u20, u21, u22, u23, u24, u25, u26, u27, u28, u29, u30, u31, u32, u33, u34, u35, u36, u37, u38, u39, u40, v41, v42, v43, v44, v45, v46, v47, v48, v49, v50, v51, v52, v53, v54, v55, v56, v57, u58, u59, u60, u61, u62, u63, u64, u65, u66, u67, u68, u69, u70, u71, u72, u73, u74, u75, u76, u77, u78, u79, u80, u81, u82, u83, u84, u85, u86, u87, u88, u89, u90, u91, u92, u93, u94, u95, u96, u97, u98, u99, u100, u101, u102, u103, u104, u105, u106, u107, u108, u109, u110, u111, u112, u113, u114, u115, u116, u117, u118, u119, u120, u121, u122, u123, u124, u125, u126, u127, u128, u129, u130, u131, u132, u133, u134, u135, u136, u137, u138, u139], []⟩ w')) :
    Code.wp Tryd.prog cTakes0 R ⟨#[.int .i64 n, u1, u2, u3, u4, u5, .pointer (some ⟨gb, 0, none⟩), .int .i64 2, u8, u9, u10, u11, u12, u13, u14, u15, u16, u17, u18, u19, u20, u21, u22, u23, u24, u25, u26, u27, u28, u29, u30, u31, u32, u33, u34, u35, u36, u37, u38, u39, u40, u41, u42, u43, u44, u45, u46, u47, u48, u49, u50, u51, u52, u53, u54, u55, u56, u57, u58, u59, u60, u61, u62, u63, u64, u65, u66, u67, u68, u69, u70, u71, u72, u73, u74, u75, u76, u77, u78, u79, u80, u81, u82, u83, u84, u85, u86, u87, u88, u89, u90, u91, u92, u93, u94, u95, u96, u97, u98, u99, u100, u101, u102, u103, u104, u105, u106, u107, u108, u109, u110, u111, u112, u113, u114, u115, u116, u117, u118, u119, u120, u121, u122, u123, u124, u125, u126, u127, u128, u129, u130, u131, u132, u133, u134, u135, u136, u137, u138, u139], []⟩ w := by
  have h0 : Hid (∀ i, i < n → bt (newL n) i = if i < 2 then 1 else 2) := Lib.hid fun i hi => by rw [bt_newL n (by omega), if_pos hi]
  have H0 := Lib.hid H
  clear H
  conv => arg 2; whnf
  go_wp2_with fail
  go_loopw [7] (fun u wr => ∃ (k : Nat) (l : List UInt8), u = .int .i64 k ∧ 2 ≤ k ∧ k ≤ n ∧ Hid (One w0 wr gb mb sb qb c n l ((k : Int) - 2)) ∧ Hid (∀ i, i < n → bt l i = if i < k then 1 else 2)) (fun u _ => n - (intOf u).toNat)
  case atStart => exact ⟨2, newL n, rfl, by omega, by omega, H0, h0⟩
  case round =>
    clear H0 h0
    obtain ⟨k, l, rfl, hk2, hkn, H, hl⟩ := hrel
    by_cases hlt : k < n
    · have d1 : decide ((k : Int) < (n : Int)) = true := by simpa using hlt
      have d2 : decide (k < n) = true := by simpa using hlt
      have htk := H.out.take k (takeI_at H.out.map hlt (fun j hj => by rw [hl.out j (by omega), if_pos hj]) (by rw [hl.out k hlt, if_neg (by omega)])) hk2 hlt (by omega)
      have e1 : (k : Int) - 2 + 1 = ((k + 1 : Nat) : Int) - 2 := by omega
      rw [e1] at htk
      have hl' : Hid (∀ i, i < n → bt (l.set k 1) i = if i < k + 1 then 1 else 2) := Lib.hid fun i hi => by
        rw [bt_set l k 1 (by have := H.out.map.len; omega)]
        by_cases e : k = i
        · rw [if_pos e, if_pos (by omega)]; rfl
        · rw [if_neg e, hl.out i hi]
          by_cases e2 : i < k
          · rw [if_pos e2, if_pos (by omega)]
          · rw [if_neg e2, if_neg (by omega)]
      have i1 : IntKind.i64.wrap ((k : Int) + 1) = (k : Int) + 1 := IntWalk.i64_in _ (by omega)
      have Htk := Lib.hid htk
      have hk1 : k + 1 ≤ n := hlt
      clear H hl htk e1 hlt
      go_wp2_with fail
      with_reducible refine Htk.out.mono ?_
      rintro e w1 ⟨rfl, h1, _⟩
      have H1 := Lib.hid h1
      clear h1
      go_wp2_with fail
      go_roundw
      case rel => exact ⟨k + 1, l.set k 1, by go_num, by omega, by omega, H1, hl'⟩
      case measure => clear i1; simp [intOf]; omega
    · obtain rfl : k = n := by omega
      have d1 : decide ((k : Int) < (k : Int)) = false := by simp
      go_wp2_with fail
      with_reducible refine hR.out _ _ _ _ _ _ _ _ _ _ _ _ _ _ _ _ _ _ _ _ _ _ l H.out (fun i hi => by rw [hl.out i hi, if_pos hi])
set_option maxRecDepth 1000000 in
set_option maxHeartbeats 8000000 in
theorem takes13 (w w0 : World) (gb mb sb qb c n : Nat) (A : Option Addr) (len cap : Nat) (K : Nat → Int) (h8 : 8 ≤ n) (h64 : n ≤ 64) (hlen : len ≤ 30) (hops : 0 < len → ∃ b off, A = some ⟨b, off, none⟩ ∧ b < w0.heap.size ∧ ∀ i, i < len → w0.cell? ⟨b, off + i, none⟩ = some (.int .i64 (K i))) (l0 : List UInt8) (H : One w0 w gb mb sb qb c n l0 ((n : Int) - 2)) (hl0 : ∀ i, i < n → bt l0 i = 1)
    (u2 u3 u4 u7 u8 u9 u10 u11 u12 u13 u14 u15 u16 u17 u18 u19 u20 u21 u22 u23 u24 u25 u26 u27 u28 u29 u30 u31 u32 u33 u34 u35 u36 u37 u38 u39 u40 u41 u42 u43 u44 u45 u46 u47 u48 u49 u50 u51 u52 u53 u54 u55 u56 u57 u58 u59 u60 u61 u62 u63 u64 u65 u66 u67 u68 u69 u70 u71 u72 u73 u74 u75 u76 u77 u78 u79 u80 u81 u82 u83 u84 u85 u86 u87 u88 u89 u90 u91 u92 u93 u94 u95 u96 u97 u98 u99 u100 u101 u102 u103 u104 u105 u106 u107 u108 u109 u110 u111 u112 u113 u114 u115 u116 u117 u118 u119 u120 u121 u122 u123 u124 u125 u126 u127 u128 u129 u130 u131 u132 u133 u134 u135 u136 u137 u138 u139 : Value) :
    Code.wp Tryd.prog cTakes13 (bodyPost Tryd.prog Tryd.f5 (fun e w' => e = .returned (.bool true) ∧ Below w0.heap.size w0 w')) ⟨#[.int .i64 n, .slice A len cap, u2, u3, u4, .pointer (some ⟨sb, 0, none⟩), .pointer (some ⟨gb, 0, none⟩), u7, u8, u9, u10, u11, u12, u13, u14, u15, u16, u17, u18, u19, u20, u21, u22, u23, u24, u25, u26, u27, u28, u29, u30, u31, u32, u33, u34, u35, u36, u37, u38, u39, u40, u41, u42, u43, u44, u45, u46, u47, u48, u49, u50, u51, u52, u53, u54, u55, u56, u57, u58, u59, u60, u61, u62, u63, u64, u65, u66, u67, u68, u69, u70, u71, u72, u73, u74, u75, u76, u77, u78, u79, u80, u81, u82, u83, u84, u85, u86, u87, u88, u89, u90, u91, u92, u93, u94, u95, u96, u97, u98, u99, u100, u101, u102, u103, u104, u105, u106, u107, u108, u109, u110, u111, u112, u113, u114, u115, u116, u117, u118, u119, u120, u121, u122, u123, u124, u125, u126, u127, u128, u129, u130, u131, u132, u133, u134, u135, u136, u137, u138, u139], []⟩ w := by
  have hmk : ∀ W : World, (Instr.makeMap 48 none).run Tryd.prog W = .ok (.map (some W.heap.size)) (W.alloc (.map #[] 0)) := fun W => run_makeMap _ W
  have htn := H.take_no hl0
  have hfr : ∀ W, One w0 W gb mb sb qb c n l0 ((n : Int) - 2) → Calls Tryd.prog 17 #[.pointer (some ⟨gb, 0, none⟩)] W fun e w' => e = .returned (.int .i64 0) ∧ Below W.heap.size W w' := fun W h => by
    have := h.free
    rw [count_none (by have := h.map.len; omega) hl0] at this
    exact this
  have i1 : IntKind.i64.wrap ((n : Int) - 2) = (n : Int) - 2 := IntWalk.i64_in _ (by omega)
  have hc0 : Hid (0 = (l0.take n).count 2) := Lib.hid (count_none (by have := H.map.len; omega) hl0).symm
  have hS0 := Lib.hid (Sl_none hl0)
  have H0 := Lib.hid H
  have Hops := Lib.hid hops
  clear H hops hl0
  conv => arg 2; whnf
  go_wp2_with fail
  with_reducible refine htn.mono ?_
  rintro e w1 ⟨rfl, hb1⟩
  have H1 := Lib.hid (H0.out.below hb1)
  clear hb1 htn
  go_wp2_with fail
  with_reducible refine (hfr _ H1.out).mono ?_
  rintro e w2 ⟨rfl, hb2⟩
  have H2 := Lib.hid (H1.out.below hb2)
  clear hb2
  go_wp2_with fail
  with_reducible refine (H2.out.taken).mono ?_
  rintro e w3 ⟨rfl, rfl⟩
  have m0 := HadIs.made w3
  have b0 := below_al (Below.refl _ w3) (.map #[] 0)
  have H3 := Lib.hid (H2.out.below b0)
  rw [← hS0.out] at m0
  have M0 := Lib.hid m0
  obtain ⟨hb, hhb⟩ : ∃ hb, hb = w3.heap.size := ⟨_, rfl⟩
  have hord : Hid (hb ≠ gb ∧ hb ≠ mb ∧ w0.heap.size ≤ hb ∧ hb ≠ sb ∧ hb ≠ qb ∧ hb ≠ gtab) := Lib.hid (by
    have h1 := H2.out.lt
    have h2 := H2.out.sto.lt1
    have h3 := H2.out.sto.lt2
    have h4 := H2.out.tab.lt
    have h5 := H2.out.bel.size
    omega)
  rw [← hhb] at M0
  have Hhb := Lib.hid hhb
  clear m0 b0 hfr
  go_wp2_with fail
  rw [← Hhb.out]
  clear hhb
  go_loopw [80] (fun u wr => ∃ (j m : Nat) (l : List UInt8), u = .int .i64 j ∧ j ≤ len ∧ m ≤ j ∧ Hid (One w0 wr gb mb sb qb c n l ((n : Int) - 2 - m)) ∧ Hid (HadIs wr hb (Sl n l) m) ∧ Hid (m = (l.take n).count 2)) (fun u _ => len - (intOf u).toNat)
  case atStart => exact ⟨0, 0, l0, rfl, Nat.zero_le _, Nat.le_refl _, by simpa using H3, M0, hc0⟩
  case round =>
    clear H3 M0 hc0
    obtain ⟨j, m, l, rfl, hj, hmj, H, hm, hc⟩ := hrel
    have hlen2 := H.out.map.len
    by_cases hlt : j < len
    · obtain ⟨b, off, rfl, hbl, hcell⟩ := Hops.out (by omega)
      have hx0 := (H.out.bel.cell (p := ⟨b, off + j, none⟩) hbl).trans (hcell j hlt)
      have hbw : b < wr.heap.size := Nat.lt_of_lt_of_le hbl H.out.bel.size
      clear hcell
      generalize K j = g at *
      have d1 : decide ((j : Int) < (len : Int)) = true := by simpa using hlt
      have d2 : decide (j < len) = true := by simpa using hlt
      have hlt' : (j : Int) < (len : Int) := by omega
      have hq : (6 : Int) ≤ (n : Int) - 2 ∧ (n : Int) - 2 ≤ 62 := by omega
      have ha1 := Int.tmod_lt_of_pos g (b := (n : Int) - 2) (by omega)
      have ha2 : -((n : Int) - 2) < g.tmod ((n : Int) - 2) := Int.lt_tmod_of_pos g (by omega)
      have hr1 := Int.emod_nonneg (g.tmod ((n : Int) - 2) + (n : Int) - 2) (b := (n : Int) - 2) (by omega)
      have hr2 := Int.emod_lt_of_pos (g.tmod ((n : Int) - 2) + (n : Int) - 2) (b := (n : Int) - 2) (by omega)
      obtain ⟨x, hx⟩ : ∃ x : Nat, (2 + (g.tmod ((n : Int) - 2) + (n : Int) - 2) % ((n : Int) - 2)) = (x : Int) := ⟨(2 + (g.tmod ((n : Int) - 2) + (n : Int) - 2) % ((n : Int) - 2)).toNat, by omega⟩
      have hxw : wrap64 (2 + (g.tmod ((n : Int) - 2) + (n : Int) - 2) % ((n : Int) - 2)) = (x : Int) := by rw [hx]; exact IntWalk.wrap64_in (x : Int) (by omega)
      have hx2 : 2 ≤ x := by omega
      have hxk : x < n := by omega
      have hwf := kl_wf (i := (x : Int)) (by omega) (by omega)
      clear hr1 hr2 hx
      have hlk := hm.out.look x hwf
      obtain ⟨w1, hput, hm1, hgr⟩ := hm.out.put x hwf (by omega)
      have hord' := hord.out
      have H1 := H.out.keep (Keep.grown hgr (fun k hk => (Option.some.inj hk).symm)) (fun i hi => by rw [hi]; exact hord')
      have i2 : IntKind.i64.wrap ((j : Int) + 1) = (j : Int) + 1 := IntWalk.i64_in _ (by omega)
      rw [Sl_at hx2 hxk] at hlk hm1
      by_cases hb2 : bt l x = 2
      · rw [decide_eq_true hb2] at hlk hm1
        rw [if_pos rfl, Sl_self (by rw [Sl_at hx2 hxk, decide_eq_true hb2])] at hm1
        have hgv := H1.give_no x (.inr ⟨x, rfl, by omega⟩)
        have Hm1 := Lib.hid hm1
        have HH1 := Lib.hid H1
        have hj1 : j + 1 ≤ len := hlt
        clear hm1 H1 hm H hgr hord' hb2 hlt
        go_wp2_with fail
        with_reducible refine hgv.mono ?_
        rintro e w2 ⟨rfl, hb2⟩
        have H2 := Lib.hid (HH1.out.below hb2)
        have M2 := Lib.hid (Hm1.out.block (hb2.block _ Hm1.out.lt))
        clear hb2
        go_wp2_with fail
        go_roundw
        case rel => exact ⟨j + 1, m, l, by go_num, by omega, by omega, H2, M2, hc⟩
        case measure => clear i2 i1; simp [intOf]; omega
      · have hb1 : bt l x = 1 := (H.out.map.ok x hxk).resolve_right hb2
        rw [decide_eq_false hb2] at hlk hm1
        rw [if_neg (by simp), Sl_set hx2 hxk (by omega)] at hm1
        have hgv := H1.give x hx2 hxk hb1 (by omega)
        have e1 : (n : Int) - 2 - (m : Int) - 1 = (n : Int) - 2 - ((m + 1 : Nat) : Int) := by omega
        rw [e1] at hgv
        have hc' : Hid (m + 1 = ((l.set x 2).take n).count 2) := Lib.hid (by rw [count_set hxk (by omega) hb1, ← hc.out])
        have Hm1 := Lib.hid hm1
        have Hgv := Lib.hid hgv
        have hj1 : j + 1 ≤ len := hlt
        clear hm1 H1 hm H hgr hb2 hb1 hgv e1 hlt hc
        go_wp2_with fail
        with_reducible refine Hgv.out.mono ?_
        rintro e w2 ⟨rfl, h2, k2⟩
        have H2 := Lib.hid h2
        have M2 := Lib.hid (Hm1.out.block (k2.block _ Hm1.out.lt (by omega)))
        clear h2 k2 hord'
        go_wp2_with fail
        go_roundw
        case rel => exact ⟨j + 1, m + 1, l.set x 2, by go_num, by omega, by omega, H2, M2, hc'⟩
        case measure => clear i2 i1; simp [intOf]; omega
    · obtain rfl : j = len := by omega
      have d1 : decide ((j : Int) < (j : Int)) = false := by simp
      have hfree := H.out.free
      rw [← hc.out] at hfree
      clear hlt
      go_wp2_with fail
      with_reducible refine (gnew_any wr sb).mono ?_
      rintro e w4 ⟨gh, mh, rfl, hmh, hgh, hne, hb4, hg4⟩
      have o := H.out.ord
      have h1 := H.out.sto.lt1
      have h2 := H.out.sto.lt2
      have h3 := H.out.tab.lt
      have h5 := H.out.bel.size
      have hh : One w0 w4 gh mh sb qb c n (newL n) 0 := One.new (H.out.tab.below hb4) (H.out.sto.below hb4) hg4 h8 h64 (below_base H.out.bel H.out.bel.size hb4) (by omega)
      have H4 := Lib.hid (H.out.below hb4)
      have HH4 := Lib.hid hh
      have M4 := Lib.hid (hm.out.block (hb4.block _ hm.out.lt))
      clear o h1 h2 h3 h5 hh hb4 hg4 hmh hgh hne hfree
      have hf4 := H4.out.free
      rw [← hc.out] at hf4
      go_wp2_with fail
      with_reducible refine hf4.mono ?_
      rintro e w5 ⟨rfl, hb5⟩
      have H5 := Lib.hid (H4.out.below hb5)
      have HH5 := Lib.hid (HH4.out.below hb5)
      have M5 := Lib.hid (M4.out.block (hb5.block _ M4.out.lt))
      have hln := M5.out.len
      clear hb5 hf4
      go_wp2_with fail
      have i3 : IntKind.i64.wrap ((n : Int) - 2 - (m : Int)) = (n : Int) - 2 - (m : Int) := IntWalk.i64_in _ (by omega)
      with_reducible refine (H5.out.taken).mono ?_
      rintro e w6 ⟨rfl, rfl⟩
      have hg0 := H5.out.give_no 0 (.inl (by omega))
      go_wp2_with fail
      with_reducible refine hg0.mono ?_
      rintro e w7 ⟨rfl, hb7⟩
      have HH7 := Lib.hid (HH5.out.below hb7)
      have H7 := Lib.hid (H5.out.below hb7)
      have hf7 := HH7.out.free
      rw [count_new n (by omega) (by omega)] at hf7
      have e2 : ((n - 2 : Nat) : Int) = (n : Int) - 2 := by omega
      rw [e2] at hf7
      clear hb7 e2 i3 hln
      go_wp2_with fail
      with_reducible refine hf7.mono ?_
      rintro e w8 ⟨rfl, hb8⟩
      have B8 := Lib.hid (below_base H7.out.bel H7.out.bel.size hb8)
      clear hb8
      go_wp2_with fail
      go_ret
      exact ⟨rfl, B8.out⟩
set_option maxRecDepth 1000000 in
set_option maxHeartbeats 8000000 in
theorem takes_any (n : Int) (A : Option Addr) (len cap : Nat) (K : Nat → Int) (w : World) (ht : Tab w) (hops : 0 < len → ∃ b off, A = some ⟨b, off, none⟩ ∧ b < w.heap.size ∧ ∀ i, i < len → w.cell? ⟨b, off + i, none⟩ = some (.int .i64 (K i))) :
    Calls Tryd.prog 5 #[.int .i64 n, .slice A len cap] w fun e w' => e = .returned (.bool true) ∧ Below w.heap.size w w' := by
  have hal := fun W (h : Tab W) => alive_any W h
  by_cases h8 : n < 8
  · have e8 : decide (n < 8) = true := by simpa using h8
    clear h8 hops
    go_enter Tryd.func5, Tryd.ntmps5
    go_wp2_with fail
    with_reducible refine (hal w ht).mono ?_
    rintro e w1 ⟨rfl, hb1⟩
    go_wp2_with fail
    go_ret
    exact ⟨rfl, hb1⟩
  have e8 : decide (n < 8) = false := by simpa using h8
  by_cases h64 : 64 < n
  · have e64 : decide (64 < n) = true := by simpa using h64
    clear h8 h64 hops
    go_enter Tryd.func5, Tryd.ntmps5
    go_wp2_with fail
    with_reducible refine (hal w ht).mono ?_
    rintro e w1 ⟨rfl, hb1⟩
    go_wp2_with fail
    go_ret
    exact ⟨rfl, hb1⟩
  have e64 : decide (64 < n) = false := by simpa using h64
  by_cases h30 : 30 < len
  · have e30 : decide (30 < len) = true := by simpa using h30
    have e30' : decide ((30 : Int) < (len : Int)) = true := by simp; omega
    clear h8 h64 h30 hops
    go_enter Tryd.func5, Tryd.ntmps5
    go_wp2_with fail
    with_reducible refine (hal w ht).mono ?_
    rintro e w1 ⟨rfl, hb1⟩
    go_wp2_with fail
    go_ret
    exact ⟨rfl, hb1⟩
  have e30 : decide (30 < len) = false := by simpa using h30
  have e30' : decide ((30 : Int) < (len : Int)) = false := by simp; omega
  obtain ⟨m, rfl⟩ : ∃ m : Nat, n = m := ⟨n.toNat, by omega⟩
  have hm8 : 8 ≤ m := by omega
  have hm64 : m ≤ 64 := by omega
  have hlen : len ≤ 30 := by omega
  have hnew := fun W (h : Tab W) => snew_any m W h hm8 hm64
  have Hops := Lib.hid hops
  have HT := Lib.hid ht
  clear h8 h64 h30 hops ht
  go_enter Tryd.func5, Tryd.ntmps5
  go_wp2_with fail
  with_reducible refine (hal w HT.out).mono ?_
  rintro e w1 ⟨rfl, hb1⟩
  have T1 := Lib.hid (HT.out.below hb1)
  have B1 := Lib.hid hb1
  clear hb1 hal
  go_wp2_with fail
  with_reducible refine (hnew _ T1.out).mono ?_
  rintro e w2 ⟨sb, qb, c, rfl, hsb, hqb, hb2, hs2⟩
  have T2 := Lib.hid (T1.out.below hb2)
  have S2 := Lib.hid hs2
  have B2 := Lib.hid (below_base B1.out B1.out.size hb2)
  clear hsb hqb hb2 hs2 hnew
  go_wp2_with fail
  with_reducible refine (gnew_any _ sb).mono ?_
  rintro e w3 ⟨gb, mb, rfl, hmb, hgb, hne, hb3, hg3⟩
  have H3 : Hid (One w w3 gb mb sb qb c m (newL m) 0) := Lib.hid (One.new (T2.out.below hb3) (S2.out.below hb3) hg3 hm8 hm64 (below_base B2.out B2.out.size hb3) (by
    have h1 := S2.out.lt1
    have h2 := S2.out.lt2
    have h3 := T2.out.lt
    have h4 := B2.out.size
    omega))
  clear hmb hgb hne hb3 hg3
  go_upto_block 0 with fail
  refine takes0 w3 w gb mb sb qb c m hm8 hm64 H3.out _ _ _ _ _ _ _ _ _ _ _ _ _ _ _ _ _ _ _ _ _ _ _ _ _ _ _ _ _ _ _ _ _ _ _ _ _ _ _ _ _ _ _ _ _ _ _ _ _ _ _ _ _ _ _ _ _ _ _ _ _ _ _ _ _ _ _ _ _ _ _ _ _ _ _ _ _ _ _ _ _ _ _ _ _ _ _ _ _ _ _ _ _ _ _ _ _ _ _ _ _ _ _ _ _ _ _ _ _ _ _ _ _ _ _ _ _ _ _ _ _ _ _ _ _ _ _ _ _ _ _ _ _ _ _ _ _ _ (Lib.hid (fun c a d v w h => by cases d <;> exact h)) (Lib.hid ?_)
  intro v7 v4 v8 v9 v41 v42 v43 v44 v45 v46 v47 v48 v49 v50 v51 v52 v53 v54 v55 v56 v57 w4 l h4 hl
  dsimp only [Exit.then]
  apply_assumption
  exact takes13 w4 w gb mb sb qb c m A len cap K hm8 hm64 hlen Hops.out l h4 hl _ _ _ _ _ _ _ _ _ _ _ _ _ _ _ _ _ _ _ _ _ _ _ _ _ _ _ _ _ _ _ _ _ _ _ _ _ _ _ _ _ _ _ _ _ _ _ _ _ _ _ _ _ _ _ _ _ _ _ _ _ _ _ _ _ _ _ _ _ _ _ _ _ _ _ _ _ _ _ _ _ _ _ _ _ _ _ _ _ _ _ _ _ _ _ _ _ _ _ _ _ _ _ _ _ _ _ _ _ _ _ _ _ _ _ _ _ _ _ _ _ _ _ _ _ _ _ _ _ _ _ _ _ _ _ _
end Go.Proofs.YtibbmmkjienekaaDoor.Gr
