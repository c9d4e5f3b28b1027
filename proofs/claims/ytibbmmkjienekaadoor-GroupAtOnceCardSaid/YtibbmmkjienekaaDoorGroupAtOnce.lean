/- The walk of GroupAtOnce. (Printed by tools/gen_gao.py.) -/
import Derived.Test.YtibbmmkjienekaaDoorGrPatLaw
import Derived.Test.YtibbmmkjienekaaDoorGrRead2
import Derived.BigRegion
namespace Go.Proofs.YtibbmmkjienekaaDoor.Gr
open Go.RowKit Go.Proofs.YtibbmmkjienekaaDoor.Mem Go.Proofs.YtibbmmkjienekaaDoor.Pg Go.Proofs.YtibbmmkjienekaaDoor.Kp Go.Proofs.YtibbmmkjienekaaDoor.Sp
set_option linter.unusedSimpArgs false
set_option linter.unusedVariables false
noncomputable def cOnce8 : Code := sub (Tryd.f6.body.getD .skip) [.r, .r, .r, .r, .r, .l, .r]
noncomputable def cOnce21 : Code := sub (Tryd.f6.body.getD .skip) [.r, .r, .r, .r, .r, .r]
/-- A group over a new store, and the cell that the closure reads. -/
structure Once (w0 w : World) (gb mb sb qb c cb : Nat) (cl : Bool) (M : Int → Option (List UInt8)) (tk : Int) : Prop where
  any : Any w0 w gb mb sb qb c M tk
  cell : w.heap[cb]? = some (.cells #[.bool cl] 4 (0, 0))
  ne : cb < gb ∧ cb < mb
section
variable {w0 w w' : World} {gb mb sb qb c cb : Nat} {cl : Bool} {M M' : Int → Option (List UInt8)} {tk tk' : Int}
theorem Once.below (h : Once w0 w gb mb sb qb c cb cl M tk) (k : Below w.heap.size w w') : Once w0 w' gb mb sb qb c cb cl M tk := ⟨h.any.below k, blk_keep h.cell k, h.ne⟩
theorem Once.upd (h : Once w0 w gb mb sb qb c cb cl M tk) (k : Keep (fun j => j = gb ∨ j = mb) w w') (a : Any w0 w' gb mb sb qb c M' tk') : Once w0 w' gb mb sb qb c cb cl M' tk' := by
  have o := h.ne
  exact ⟨a, k.blk h.cell (by omega), o⟩
end
/-- The things that are done. -/
def GOps (w : World) (A : Option Addr) (len : Nat) (K : Nat → GOp) : Prop := 0 < len → ∃ b off, A = some ⟨b, off, none⟩ ∧ b < w.heap.size ∧ ∀ i, i < len → ∀ r, r < 6 → w.cell? ⟨b, off + i * 6 + r, none⟩ = (K i).cells[r]?
set_option maxRecDepth 1000000 in
set_option maxHeartbeats 8000000 in
theorem once8 (w w0 : World) (gb mb sb qb c cb : Nat) (cl : Bool) (A : Option Addr) (len cap : Nat) (K : Nat → GOp) (hlen : len ≤ 40) (hops : GOps w0 A len K) (H : Once w0 w gb mb sb qb c cb cl none0 0)
    (u0 u1 u2 u4 u7 u8 u9 u10 u11 u12 u13 u14 u15 u16 u17 u18 u19 u20 u21 u22 u23 u24 u25 u26 u27 u28 u29 u33 u34 u35 u36 u37 u38 u39 u40 u41 u42 u43 u44 u45 u46 u47 u48 u49 u50 u51 u52 u53 u54 u55 u56 u57 u58 u59 u60 u61 u62 u63 u64 u65 u66 u67 u68 u69 u70 u71 u72 u73 u74 u75 u76 u77 u78 u79 u80 u81 u82 u83 u84 u85 u86 u87 u88 u89 u90 u91 u92 u93 u94 u95 u96 u97 u98 u99 u100 u101 u102 u103 u104 u105 u106 u107 u108 u109 u110 u111 u112 u113 u114 u115 u116 u117 u118 u119 u120 u121 u122 u123 u124 u125 u126 u127 u128 u129 u130 u131 u132 u133 u134 u135 u136 u137 u138 u139 u140 u141 u142 u143 u144 u145 u146 u147 u148 u149 u150 u151 u152 u153 u154 u155 u156 u157 u158 u159 : Value) (R : Exit → Act → World → Prop) (hP : Hid (∀ c a d v w, R (.panic c) (Act.put a d v) w → R (.panic c) a w))
    (hT : Hid (∀ a w', a.defers = [] → a.tmps.getD 4 undef = .bool true → Below w0.heap.size w0 w' → R .ret a w'))
    (hR : Hid (∀ (v32 v4 v8 v33 v34 v35 v36 v37 v38 v39 v40 v41 v42 v43 v44 v45 v46 v47 v48 v49 v50 v51 v52 v53 v54 v55 v56 v57 v58 v59 v60 v61 v62 v63 v64 v65 v66 v67 v68 v69 : Value) (w' : World) (M : Int → Option (List UInt8)) (tk : Int), Once w0 w' gb mb sb qb c cb cl M tk → R .normal ⟨#[u0, u1, u2, .pointer (some ⟨cb, 0, none⟩), v4, .pointer (some ⟨sb, 0, none⟩), .pointer (some ⟨gb, 0, none⟩), u7, v8, u9, u10, u11, u12, u13, u14, u15, u16, u17, u18, u19, u20, u21, u22, u23, u24, u25, u26, u27, u28, u29, .slice A len cap, .int .i64 len, v32, v33, v34, v35, v36, v37, v38, v39, v40, v41, v42, v43, v44, v45, v46, v47, v48, v49, v50, v51, v52, v53, v54, v55, v56, v57, v58, v59, v60, v61, v62, v63, v64, v65, v66, v67, v68, v69, u70, u71, u72, u73, u74, u75, u76, u77, u78, u79, u80, u81, u82, u83, u84, u85, u86, u87, u88, u89, u90, u91, u92, u93, u94, u95, u96, u97, u98, u99, u100, u101, u102, u103, u104, u105, u106, u107, u108, u109, u110, u111, u112, u113, u114, u115, u116, u117, u118, u119, u120, u121, u122, u123, u124, u125, u126, u127, u128, u129, u130, u131, u132, u133, u134, u135, u136, u137, u138, u139, u140, u141, u142, u143, u144, u145, u146, u147, u148, u149, u150, u151, u152, u153, u154, u155, u156, u157, u158, u159], []⟩ w')) :
    Code.wp Tryd.prog cOnce8 R ⟨#[u0, u1, u2, .pointer (some ⟨cb, 0, none⟩), u4, .pointer (some ⟨sb, 0, none⟩), .pointer (some ⟨gb, 0, none⟩), u7, u8, u9, u10, u11, u12, u13, u14, u15, u16, u17, u18, u19, u20, u21, u22, u23, u24, u25, u26, u27, u28, u29, .slice A len cap, .int .i64 len, .int .i64 0, u33, u34, u35, u36, u37, u38, u39, u40, u41, u42, u43, u44, u45, u46, u47, u48, u49, u50, u51, u52, u53, u54, u55, u56, u57, u58, u59, u60, u61, u62, u63, u64, u65, u66, u67, u68, u69, u70, u71, u72, u73, u74, u75, u76, u77, u78, u79, u80, u81, u82, u83, u84, u85, u86, u87, u88, u89, u90, u91, u92, u93, u94, u95, u96, u97, u98, u99, u100, u101, u102, u103, u104, u105, u106, u107, u108, u109, u110, u111, u112, u113, u114, u115, u116, u117, u118, u119, u120, u121, u122, u123, u124, u125, u126, u127, u128, u129, u130, u131, u132, u133, u134, u135, u136, u137, u138, u139, u140, u141, u142, u143, u144, u145, u146, u147, u148, u149, u150, u151, u152, u153, u154, u155, u156, u157, u158, u159], []⟩ w := by
  have Hops := Lib.hid hops
  have H0 := Lib.hid H
  clear hops H
  conv => arg 2; whnf
  go_wp2_with fail
  go_loopw [32] (fun u wr => ∃ (j : Nat) (M : Int → Option (List UInt8)) (tk : Int), u = .int .i64 j ∧ j ≤ len ∧ -(j : Int) ≤ tk ∧ tk ≤ (j : Int) ∧ Hid (Once w0 wr gb mb sb qb c cb cl M tk)) (fun u _ => len - (intOf u).toNat)
  case atStart => exact ⟨0, none0, 0, rfl, Nat.zero_le _, by omega, by omega, H0⟩
  case round =>
    clear H0
    obtain ⟨j, M, tk, rfl, hj, ht1, ht2, H⟩ := hrel
    by_cases hlt : j < len
    · obtain ⟨b, off, rfl, hbl, hcell⟩ := Hops.out (by omega)
      have hx := fun r (hr : r < 6) => (H.out.any.bel.cell (p := ⟨b, off + j * 6 + r, none⟩) hbl).trans (hcell j hlt r hr)
      have hbw : b < wr.heap.size := Nat.lt_of_lt_of_le hbl H.out.any.bel.size
      obtain ⟨o, ho⟩ : ∃ o, o = K j := ⟨_, rfl⟩
      rw [← ho] at hx
      obtain ⟨k, n, pk, pd, px, s⟩ := o
      have x0 := hx 0 (by omega)
      have x1 := hx 1 (by omega)
      have x2 := hx 2 (by omega)
      have x3 := hx 3 (by omega)
      have x4 := hx 4 (by omega)
      have x5 := hx 5 (by omega)
      simp only [GOp.cells, List.getElem?_cons_zero, List.getElem?_cons_succ, Nat.add_zero] at x0 x1 x2 x3 x4 x5
      clear hcell hx ho
      have d1 : decide ((j : Int) < (len : Int)) = true := by simpa using hlt
      have d2 : decide (j < len) = true := by simpa using hlt
      have hlt' : (j : Int) < (len : Int) := by omega
      have i1 : IntKind.i64.wrap ((j : Int) + 1) = (j : Int) + 1 := IntWalk.i64_in _ (by omega)
      have hj1 : j + 1 ≤ len := hlt
      have ba := below_al (Below.refl _ wr) (.cells #[.int .i64 k, .int .i64 n, .int .i64 pk, .int .i64 pd, .int .i64 px, .string s] 53)
      have ca := blk_cell (heap_alloc_new wr (.cells #[.int .i64 k, .int .i64 n, .int .i64 pk, .int .i64 pd, .int .i64 px, .string s] 53))
      have H1 := Lib.hid (H.out.below ba)
      have Bz := Lib.hid (below_base H.out.any.bel H.out.any.bel.size ba)
      clear H ba hlt
      by_cases hs : 300 < s.size
      · have e0 : decide (300 < s.size) = true := by simpa using hs
        have e0' : decide ((300 : Int) < (s.size : Int)) = true := by simp; omega
        clear hs
        go_wp2_with fail
        first | exact hT.out _ _ rfl rfl Bz.out | (dsimp only [Exit.inBlock, Exit.then]; exact hT.out _ _ rfl rfl Bz.out)
      · have e0 : decide (300 < s.size) = false := by simpa using hs
        have e0' : decide ((300 : Int) < (s.size : Int)) = false := by simp; omega
        clear hs
        by_cases h2 : k = 2
        · have e2 : (k == 2) = true := by simpa using h2
          have e2' : decide (k = 2) = true := by simpa using h2
          clear h2
          by_cases h0 : 0 ≤ n
          · have e3 : decide (0 ≤ n) = true := by simpa using h0
            by_cases h16 : n < 16
            · have e4 : decide (n < 16) = true := by simpa using h16
              have hput := H1.out.any.put n h0 h16 ⟨pk, pd, px, s.data.toList⟩
              simp only [Pag.v, ← str_of] at hput
              clear h0 h16
              go_wp2_with fail
              with_reducible refine hput.mono ?_
              rintro e w2 ⟨⟨x, rfl⟩, ⟨M2, h2⟩, k2⟩
              have H2 := Lib.hid (H1.out.upd k2 h2)
              clear k2 h2 hput
              go_wp2_with fail
              go_roundw
              case rel => exact ⟨j + 1, M2, tk, by go_num, by omega, by omega, by omega, H2⟩
              case measure => clear i1; simp [intOf]; omega
            · have e4 : decide (n < 16) = false := by simpa using h16
              clear h0 h16
              go_wp2_with fail
              go_roundw
              case rel => exact ⟨j + 1, M, tk, by go_num, by omega, by omega, by omega, H1⟩
              case measure => clear i1; simp [intOf]; omega
          · have e3 : decide (0 ≤ n) = false := by simpa using h0
            clear h0
            go_wp2_with fail
            go_roundw
            case rel => exact ⟨j + 1, M, tk, by go_num, by omega, by omega, by omega, H1⟩
            case measure => clear i1; simp [intOf]; omega
        · have e2 : (k == 2) = false := by simpa using h2
          have e2' : decide (k = 2) = false := by simpa using h2
          clear h2
          by_cases h3 : k = 3
          · have e3 : (k == 3) = true := by simpa using h3
            have e3' : decide (k = 3) = true := by simpa using h3
            have htk := H1.out.any.take (by omega)
            clear h3
            go_wp2_with fail
            with_reducible refine htk.mono ?_
            rintro e w2 ⟨⟨x, y, rfl⟩, ⟨M2, tk2, h2, h4, h5⟩, k2⟩
            have H2 := Lib.hid (H1.out.upd k2 h2)
            clear k2 h2 htk
            go_wp2_with fail
            go_roundw
            case rel => exact ⟨j + 1, M2, tk2, by go_num, by omega, by omega, by omega, H2⟩
            case measure => clear i1; simp [intOf]; omega
          · have e3 : (k == 3) = false := by simpa using h3
            have e3' : decide (k = 3) = false := by simpa using h3
            clear h3
            by_cases h4 : k = 4
            · have e4 : (k == 4) = true := by simpa using h4
              have e4' : decide (k = 4) = true := by simpa using h4
              have htk := H1.out.any.give n (by omega)
              clear h4
              go_wp2_with fail
              with_reducible refine htk.mono ?_
              rintro e w2 ⟨⟨x, rfl⟩, ⟨M2, tk2, h2, h4, h5⟩, k2⟩
              have H2 := Lib.hid (H1.out.upd k2 h2)
              clear k2 h2 htk
              go_wp2_with fail
              go_roundw
              case rel => exact ⟨j + 1, M2, tk2, by go_num, by omega, by omega, by omega, H2⟩
              case measure => clear i1; simp [intOf]; omega
            · have e4 : (k == 4) = false := by simpa using h4
              have e4' : decide (k = 4) = false := by simpa using h4
              clear h4
              go_wp2_with fail
              go_roundw
              case rel => exact ⟨j + 1, M, tk, by go_num, by omega, by omega, by omega, H1⟩
              case measure => clear i1; simp [intOf]; omega
    · obtain rfl : j = len := by omega
      have d1 : decide ((j : Int) < (j : Int)) = false := by simp
      go_wp2_with fail
      with_reducible refine hR.out _ _ _ _ _ _ _ _ _ _ _ _ _ _ _ _ _ _ _ _ _ _ _ _ _ _ _ _ _ _ _ _ _ _ _ _ _ _ _ _ _ M tk H.out
set_option maxRecDepth 1000000 in
set_option maxHeartbeats 8000000 in
theorem once21 (w w0 : World) (gb mb sb qb c cb : Nat) (cl : Bool) (M : Int → Option (List UInt8)) (tk : Int) (H : Once w0 w gb mb sb qb c cb cl M tk)
    (u0 u1 u2 u4 u7 u8 u9 u10 u11 u12 u13 u14 u15 u16 u17 u18 u19 u20 u21 u22 u23 u24 u25 u26 u27 u28 u29 u30 u31 u32 u33 u34 u35 u36 u37 u38 u39 u40 u41 u42 u43 u44 u45 u46 u47 u48 u49 u50 u51 u52 u53 u54 u55 u56 u57 u58 u59 u60 u61 u62 u63 u64 u65 u66 u67 u68 u69 u70 u71 u72 u73 u74 u75 u76 u77 u78 u79 u80 u81 u82 u83 u84 u85 u86 u87 u88 u89 u90 u91 u92 u93 u94 u95 u96 u97 u98 u99 u100 u101 u102 u103 u104 u105 u106 u107 u108 u109 u110 u111 u112 u113 u114 u115 u116 u117 u118 u119 u120 u121 u122 u123 u124 u125 u126 u127 u128 u129 u130 u131 u132 u133 u134 u135 u136 u137 u138 u139 u140 u141 u142 u143 u144 u145 u146 u147 u148 u149 u150 u151 u152 u153 u154 u155 u156 u157 u158 u159 : Value) :
    Code.wp Tryd.prog cOnce21 (bodyPost Tryd.prog Tryd.f6 (fun e w' => e = .returned (.bool true) ∧ Below w0.heap.size w0 w')) ⟨#[u0, u1, u2, .pointer (some ⟨cb, 0, none⟩), u4, .pointer (some ⟨sb, 0, none⟩), .pointer (some ⟨gb, 0, none⟩), u7, u8, u9, u10, u11, u12, u13, u14, u15, u16, u17, u18, u19, u20, u21, u22, u23, u24, u25, u26, u27, u28, u29, u30, u31, u32, u33, u34, u35, u36, u37, u38, u39, u40, u41, u42, u43, u44, u45, u46, u47, u48, u49, u50, u51, u52, u53, u54, u55, u56, u57, u58, u59, u60, u61, u62, u63, u64, u65, u66, u67, u68, u69, u70, u71, u72, u73, u74, u75, u76, u77, u78, u79, u80, u81, u82, u83, u84, u85, u86, u87, u88, u89, u90, u91, u92, u93, u94, u95, u96, u97, u98, u99, u100, u101, u102, u103, u104, u105, u106, u107, u108, u109, u110, u111, u112, u113, u114, u115, u116, u117, u118, u119, u120, u121, u122, u123, u124, u125, u126, u127, u128, u129, u130, u131, u132, u133, u134, u135, u136, u137, u138, u139, u140, u141, u142, u143, u144, u145, u146, u147, u148, u149, u150, u151, u152, u153, u154, u155, u156, u157, u158, u159], []⟩ w := by
  have hpat := gpatches_clo w cl cb H.cell gb mb sb qb 16 c (-1) (B0 16) M tk H.any.sto H.any.g
  have H0 := Lib.hid H
  clear H
  conv => arg 2; whnf
  go_wp2_with fail
  with_reducible refine hpat.mono ?_
  rintro e w1 ⟨v, l, rfl, hlt, hlm, hown, hb1⟩
  have H1 := Lib.hid (H0.out.below hb1)
  have hall := H0.out.any.all
  have hpl := fun i h => (hlm i).1 h
  have HL := Lib.hid (And.intro (patsC_all (cl := cl) hall l hpl) (And.intro (patsC_sorted (cl := cl) hall l hlt hpl) (fun (j : Nat) (hj : j < 16) => layAll_shows (cl := cl) hall j hj hlt hlm)))
  have hll : (patsC cl 16 (-1) (B0 16) M l).length ≤ 64 := Nat.le_trans (patsC_le _ _ _ _ _ _) (nodup_le 64 l (hlt.imp (fun h => by omega)) (fun i hi => by have := hall.len (hpl i hi); omega))
  obtain ⟨L, hL⟩ : ∃ L, L = patsC cl 16 (-1) (B0 16) M l := ⟨_, rfl⟩
  rw [← hL] at HL hll hown
  obtain ⟨A, pc, rfl⟩ := own_slice hown
  have Hown := Lib.hid hown
  have Hb1 := Lib.hid hb1
  have cs := blk_cell H1.out.any.sto.sto
  have zs' := H1.out.any.sto.lt1
  clear hpat hlt hlm hown hb1 hall hpl hL
  go_wp2_with fail
  clear cs zs'
  go_loopw [78] (fun u wr => ∃ j : Nat, u = .int .i64 j ∧ j ≤ 16 ∧ Hid (Below w1.heap.size w1 wr)) (fun u _ => 16 - (intOf u).toNat)
  case atStart => exact ⟨0, rfl, by omega, Lib.hid (Below.refl _ _)⟩
  case round =>
    obtain ⟨j, rfl, hj, hbel⟩ := hrel
    have H2 := Lib.hid (H1.out.below hbel.out)
    have cs := blk_cell H2.out.any.sto.sto
    have zs' := H2.out.any.sto.lt1
    by_cases hlt : j < 16
    · obtain ⟨qs, hq1, hq2⟩ := H2.out.any.sto.pgs
      have cq := (blk_cell hq1 j).trans (hq2 j hlt)
      have zq := lt_of_block hq1
      have d1 : decide ((j : Int) < 16) = true := by simp; omega
      have d2 : decide (j < 16) = true := by simpa using hlt
      have hlt' : (j : Int) < 16 := by omega
      have i1 : IntKind.i64.wrap ((j : Int) + 1) = (j : Int) + 1 := IntWalk.i64_in _ (by omega)
      have hrow := own_below Hown.out hbel.out
      have hal := fun W (hw : Below w1.heap.size w1 W) => all_any W w.heap.size (.slice A L.length pc) L j (B0 16 j) (own_below Hown.out hw) (fun q hq => (HL.out.1 q hq).1) (by omega) (B0_len 16 j)
      rw [HL.out.2.2 j hlt] at hal
      have hby := fun W (h : Once w0 W gb mb sb qb c cb cl M tk) => gbytes_any W gb mb sb M tk j (kl_wf (by omega) (by omega)) h.any.g
      have Hq := Lib.hid (And.intro hq1 cq)
      clear hrow hq1 hq2
      obtain ⟨Bj, hBj⟩ : ∃ Bj, Bj = str (B0 16 j) := ⟨_, rfl⟩
      rw [← hBj] at hal cq Hq
      rcases e : M j with _ | b
      · rw [e] at hal hby
        simp only [Option.getD_none, Option.isSome_none] at hal hby
        rw [← hBj] at hal
        clear e hBj hlt
        go_wp2_with fail
        with_reducible refine (hal _ hbel.out).mono ?_
        rintro e w2 ⟨rfl, hb2⟩
        have H3 := Lib.hid (H2.out.below hb2)
        have B3 := Lib.hid (below_base hbel.out hbel.out.size hb2)
        have Hq3 := Lib.hid (And.intro (blk_keep Hq.out.1 hb2) Hq.out.2)
        have cq3 := (hb2.cell (p := ⟨qb, j, none⟩) zq).trans cq
        have zq3 := lt_of_block (blk_keep Hq.out.1 hb2)
        clear hb2 cs zs' cq zq hal
        have cs := blk_cell H3.out.any.sto.sto
        have zs' := H3.out.any.sto.lt1
        go_wp2_with fail
        with_reducible refine (hby _ H3.out).mono ?_
        rintro e w3 ⟨rfl, rfl⟩
        go_wp2_with fail
        go_roundw
        case rel => exact ⟨j + 1, by go_num, by omega, B3⟩
        case measure => clear i1; simp [intOf]; omega
      · rw [e] at hal hby
        simp only [Option.getD_some, Option.isSome_some] at hal hby
        obtain ⟨Sb, hSb⟩ : ∃ Sb, Sb = str b := ⟨_, rfl⟩
        rw [← hSb] at hal hby
        clear e hBj hlt hSb
        go_wp2_with fail
        with_reducible refine (hal _ hbel.out).mono ?_
        rintro e w2 ⟨rfl, hb2⟩
        have H3 := Lib.hid (H2.out.below hb2)
        have B3 := Lib.hid (below_base hbel.out hbel.out.size hb2)
        clear hb2 cs zs' cq zq hal
        go_wp2_with fail
        with_reducible refine (hby _ H3.out).mono ?_
        rintro e w3 ⟨rfl, rfl⟩
        go_wp2_with fail
        go_roundw
        case rel => exact ⟨j + 1, by go_num, by omega, B3⟩
        case measure => clear i1; simp [intOf]; omega
    · obtain rfl : j = 16 := by omega
      go_wp2_with fail
      go_loopw [128] (fun u wr => ∃ j : Nat, u = .int .i64 j ∧ j ≤ L.length ∧ Hid (Below w1.heap.size w1 wr)) (fun u _ => L.length - (intOf u).toNat)
      case atStart => exact ⟨0, rfl, by omega, hbel⟩
      case round =>
        clear hbel H2 cs zs' hj hlt
        obtain ⟨j, rfl, hj, hbel⟩ := hrel
        have cc := blk_cell (H1.out.below hbel.out).cell
        have zc := lt_of_block (H1.out.below hbel.out).cell
        by_cases hlt : j < L.length
        · have hrow := own_below Hown.out hbel.out
          obtain ⟨lb, rfl⟩ : ∃ lb, A = some ⟨lb, 0, none⟩ := by
            rcases Hown.out.2 with ⟨h1, h2⟩ | ⟨g, cap, cur, h1, _⟩
            · exfalso; have := Hown.out.1; rw [flatP_len, h2] at this; simp at this; omega
            · injection h1 with h1 _ _
              exact ⟨g, h1⟩
          obtain ⟨q, hq⟩ : ∃ q, q = L[j] := ⟨_, rfl⟩
          have hc : ∀ r, r < 3 → (flatP L)[j * 3 + r]? = (q.cells)[r]? := fun r hr => by rw [hq]; exact flatP_at hlt r hr
          have c0 := own_at hrow (j * 3) (.int .i64 q.p) (hc 0 (by omega))
          have c2 := own_at hrow (j * 3 + 2) (.string (str q.b)) (hc 2 (by omega))
          have hzb : lb < wr.heap.size := own_lt hrow lb rfl
          have d1 : decide ((j : Int) < (L.length : Int)) = true := by simp; omega
          have d2 : decide (j < L.length) = true := by simpa using hlt
          have hlt' : (j : Int) < (L.length : Int) := by omega
          have hj1 : j + 1 ≤ L.length := hlt
          have i1 : IntKind.i64.wrap ((j : Int) + 1) = (j : Int) + 1 := IntWalk.i64_in _ (by omega)
          have hqw : cl = true → (str q.b).size = 256 := fun h => by rw [str_size]; exact (HL.out.1 q (by rw [hq]; exact List.getElem_mem _)).2.2 h
          have hprev : ∀ i, j = i + 1 → ∃ p : Int, wr.cell? ⟨lb, i * 3, none⟩ = some (.int .i64 p) ∧ p < q.p := fun i hi => by
            have hi' : i < L.length := by omega
            refine ⟨L[i].p, own_at hrow (i * 3) (.int .i64 L[i].p) (flatP_at hi' 0 (by omega)), ?_⟩
            rw [hq]
            exact List.pairwise_iff_getElem.1 HL.out.2.1 i j hi' hlt (by omega)
          obtain ⟨qp, qa, qb'⟩ := q
          simp only at c0 c2 hqw hprev
          obtain ⟨U, hU⟩ : ∃ U, U = str qb' := ⟨_, rfl⟩
          rw [← hU] at c2 hqw
          have Hbd := Lib.hid (below_dr hbel.out)
          clear hrow hc hU hq
          have w0' : decide ((0 : Int) < 0) = false := by simp
          have hwr : ∀ i : Nat, j = i + 1 → IntKind.i64.wrap ((i : Int) + 1 - 1) = (i : Int) := fun i hi => by rw [IntWalk.i64_in _ (by omega)]; omega
          rcases hcl0 : cl with _ | _
          · rw [hcl0] at cc
            rcases j with _ | i
            · clear hqw hprev hcl0 hwr
              go_wp2_with fail
              go_region
              go_wp2_with fail
              first | go_roundw | skip
              all_goals first | exact ⟨1, by go_num, by omega, Hbd⟩ | exact ⟨⟨1, by go_num, by omega, Hbd⟩, by clear i1; simp [intOf]; omega⟩ | (clear i1; simp [intOf]; omega)
            · obtain ⟨p, cp, hpq⟩ := hprev i rfl
              have f1 : decide (qp ≤ p) = false := by simp; omega
              have f2 : decide ((0 : Int) < ((i : Int) + 1)) = true := decide_eq_true (by omega)
              have f3 := hwr i rfl
              have f4 : (((i + 1 : Nat)) : Int) = (i : Int) + 1 := by omega
              have f5 : (i : Int) < (L.length : Int) := by omega
              have f6 : i < L.length := by omega
              have f7 : (0 : Int) ≤ (i : Int) := by omega
              have f8 : (0 : Int) ≤ (i : Int) + 1 := by omega
              clear hqw hprev hcl0 hwr hpq
              go_wp2_with fail
              go_region
              go_wp2_with fail
              first | go_roundw | skip
              all_goals first | exact ⟨i + 2, by go_num, by omega, Hbd⟩ | exact ⟨⟨i + 2, by go_num, by omega, Hbd⟩, by clear i1; simp [intOf]; omega⟩ | (clear i1; simp [intOf]; omega)
          · have hU := hqw hcl0
            have hU1 : ((U.size : Int) != 256) = false := by (rw [hU]; decide)
            rw [hcl0] at cc
            rcases j with _ | i
            · clear hqw hprev hcl0 hwr
              go_wp2_with fail
              go_region
              go_wp2_with fail
              first | go_roundw | skip
              all_goals first | exact ⟨1, by go_num, by omega, Hbd⟩ | exact ⟨⟨1, by go_num, by omega, Hbd⟩, by clear i1; simp [intOf]; omega⟩ | (clear i1; simp [intOf]; omega)
            · obtain ⟨p, cp, hpq⟩ := hprev i rfl
              have f1 : decide (qp ≤ p) = false := by simp; omega
              have f2 : decide ((0 : Int) < ((i : Int) + 1)) = true := decide_eq_true (by omega)
              have f3 := hwr i rfl
              have f4 : (((i + 1 : Nat)) : Int) = (i : Int) + 1 := by omega
              have f5 : (i : Int) < (L.length : Int) := by omega
              have f6 : i < L.length := by omega
              have f7 : (0 : Int) ≤ (i : Int) := by omega
              have f8 : (0 : Int) ≤ (i : Int) + 1 := by omega
              clear hqw hprev hcl0 hwr hpq
              go_wp2_with fail
              go_region
              go_wp2_with fail
              first | go_roundw | skip
              all_goals first | exact ⟨i + 2, by go_num, by omega, Hbd⟩ | exact ⟨⟨i + 2, by go_num, by omega, Hbd⟩, by clear i1; simp [intOf]; omega⟩ | (clear i1; simp [intOf]; omega)
        · obtain rfl : j = L.length := by omega
          go_wp2_with fail
          go_ret
          exact ⟨rfl, below_base H0.out.any.bel H0.out.any.bel.size (below_base Hb1.out Hb1.out.size hbel.out)⟩
set_option maxRecDepth 1000000 in
set_option maxHeartbeats 8000000 in
theorem once_any (A : Option Addr) (len cap : Nat) (cl : Bool) (K : Nat → GOp) (w : World) (ht : Tab w) (hops : GOps w A len K) :
    Calls Tryd.prog 6 #[.slice A len cap, .bool cl] w fun e w' => e = .returned (.bool true) ∧ Below w.heap.size w w' := by
  have hal := fun W (h : Tab W) => alive_any W h
  have hb0 := below_al (Below.refl _ w) (.cells #[.bool cl] 4)
  have hk0 := heap_alloc_new w (.cells #[.bool cl] 4)
  have HT := Lib.hid (ht.below hb0)
  have HB := Lib.hid hb0
  have HK := Lib.hid hk0
  have Hops := Lib.hid hops
  clear hops ht hb0 hk0
  by_cases h40 : 40 < len
  · have e0 : decide (40 < len) = true := by simpa using h40
    have e0' : decide ((40 : Int) < (len : Int)) = true := by simp; omega
    clear h40
    go_enter Tryd.func6, Tryd.ntmps6
    go_wp2_with fail
    with_reducible refine (hal _ HT.out).mono ?_
    rintro e w1 ⟨rfl, hb1⟩
    have B1 := Lib.hid (below_tr HB.out hb1)
    clear hb1
    go_wp2_with fail
    go_ret
    exact ⟨rfl, B1.out⟩
  · have e0 : decide (40 < len) = false := by simpa using h40
    have e0' : decide ((40 : Int) < (len : Int)) = false := by simp; omega
    have hlen : len ≤ 40 := by omega
    have hnew : ∀ w, Tab w → Calls Tryd.prog 8 #[.int .i64 16] w fun e w' => ∃ sb qb c, e = .returned (.pointer (some ⟨sb, 0, none⟩)) ∧ w.heap.size ≤ sb ∧ w.heap.size ≤ qb ∧ Below w.heap.size w w' ∧ Sto w' sb qb 16 c (-1) (B0 16) := fun w h => snew_any 16 w h (by omega) (by omega)
    clear h40
    go_enter Tryd.func6, Tryd.ntmps6
    go_wp2_with fail
    with_reducible refine (hal _ HT.out).mono ?_
    rintro e w1 ⟨rfl, hb1⟩
    have T1 := Lib.hid (HT.out.below hb1)
    have K1 := Lib.hid (blk_keep HK.out hb1)
    have B1 := Lib.hid (below_tr HB.out hb1)
    clear hb1
    go_wp2_with fail
    with_reducible refine (hnew _ T1.out).mono ?_
    rintro e w2 ⟨sb, qb, c, rfl, hsb, hqb, hb2, hs2⟩
    have T2 := Lib.hid (T1.out.below hb2)
    have S2 := Lib.hid hs2
    have K2 := Lib.hid (blk_keep K1.out hb2)
    have B2 := Lib.hid (below_base B1.out B1.out.size hb2)
    clear hsb hqb hb2 hs2 hnew
    go_wp2_with fail
    with_reducible refine (gnew_any _ sb).mono ?_
    rintro e w3 ⟨gb, mb, rfl, hmb, hgb, hne, hb3, hg3⟩
    have H3 : Hid (Once w w3 gb mb sb qb c w.heap.size cl none0 0) := Lib.hid (by
      have h1 := S2.out.lt1
      have h2 := S2.out.lt2
      have h3 := T2.out.lt
      have h4 := B2.out.size
      have h5 := lt_of_block K2.out
      exact ⟨⟨T2.out.below hb3, S2.out.below hb3, hg3, (fun i b h => by cases h), below_base B2.out B2.out.size hb3, by omega⟩, blk_keep K2.out hb3, by omega⟩)
    clear hmb hgb hne hb3 hg3
    go_upto_block 0 with fail
    refine once8 w3 w gb mb sb qb c w.heap.size cl A len cap K hlen Hops.out H3.out _ _ _ _ _ _ _ _ _ _ _ _ _ _ _ _ _ _ _ _ _ _ _ _ _ _ _ _ _ _ _ _ _ _ _ _ _ _ _ _ _ _ _ _ _ _ _ _ _ _ _ _ _ _ _ _ _ _ _ _ _ _ _ _ _ _ _ _ _ _ _ _ _ _ _ _ _ _ _ _ _ _ _ _ _ _ _ _ _ _ _ _ _ _ _ _ _ _ _ _ _ _ _ _ _ _ _ _ _ _ _ _ _ _ _ _ _ _ _ _ _ _ _ _ _ _ _ _ _ _ _ _ _ _ _ _ _ _ _ _ _ _ _ _ _ _ _ _ _ _ _ _ _ _ _ (Lib.hid (fun c a d v w h => by cases d <;> exact h)) (Lib.hid ?_) (Lib.hid ?_)
    · intro a w' hd hr hb
      show bodyPost Tryd.prog Tryd.f6 (fun e w' => e = .returned (.bool true) ∧ Below w.heap.size w w') .ret a w'
      refine bodyPost_ret (v := .bool true) ?_ hd ⟨rfl, hb⟩
      rw [results_tmp (t := 4) rfl, hr]
    intro v32 v4 v8 v33 v34 v35 v36 v37 v38 v39 v40 v41 v42 v43 v44 v45 v46 v47 v48 v49 v50 v51 v52 v53 v54 v55 v56 v57 v58 v59 v60 v61 v62 v63 v64 v65 v66 v67 v68 v69 w4 M tk h4
    dsimp only [Exit.then]
    apply_assumption
    exact once21 w4 w gb mb sb qb c w.heap.size cl M tk h4 _ _ _ _ _ _ _ _ _ _ _ _ _ _ _ _ _ _ _ _ _ _ _ _ _ _ _ _ _ _ _ _ _ _ _ _ _ _ _ _ _ _ _ _ _ _ _ _ _ _ _ _ _ _ _ _ _ _ _ _ _ _ _ _ _ _ _ _ _ _ _ _ _ _ _ _ _ _ _ _ _ _ _ _ _ _ _ _ _ _ _ _ _ _ _ _ _ _ _ _ _ _ _ _ _ _ _ _ _ _ _ _ _ _ _ _ _ _ _ _ _ _ _ _ _ _ _ _ _ _ _ _ _ _ _ _ _ _ _ _ _ _ _ _ _ _ _ _ _ _ _ _ _ _ _ _ _
end Go.Proofs.YtibbmmkjienekaaDoor.Gr
