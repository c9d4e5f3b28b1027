/- SpacePlays: what is told behind each thing that is done. (Printed by tools/gen_sp.py.) -/
import Derived.Test.YtgafmbdledpblaaDoorSpacePlays0
import Derived.Deep.Cut
import Derived.Deep.CutRange
import Derived.Deep.CutBlock
import Derived.Deep.DeepCutAuto
import Derived.RegionTactic
namespace Go.Proofs.YtgafmbdledpblaaDoor.Sp
open Go.RowKit Go.Proofs.YtgafmbdledpblaaDoor.Mem Go.Proofs.YtgafmbdledpblaaDoor.Pg
set_option linter.unusedSimpArgs false
set_option linter.unusedVariables false
set_option maxRecDepth 1000000 in
set_option maxHeartbeats 8000000 in
theorem tail_lo (w : World) (B0 pb ob : Nat) (k D X : Int) (L : List UInt8) (kd nn : Int) (m : Nat) (hm : pagesF k L = m) (hl : L.length ≤ 300) (hb : Rb w B0 pb ob k D X L kd nn) (h1 : nn < 0)
    (u0 u1 u2 u3 u4 u5 u6 u7 u8 u10 u11 u12 u14 u15 u16 u17 u18 u19 u20 u21 u22 u23 u24 u25 u26 u27 u28 u29 u30 u31 u32 u33 u34 u35 u36 u37 u38 u39 u40 u41 u42 u43 u44 u45 u46 u47 u48 u49 u50 u51 u52 u53 u54 u55 u56 u57 u58 u59 u60 u61 u62 u63 u64 u65 u66 u67 u68 u69 u70 u71 u72 u73 u74 u75 u76 u77 u78 u79 u80 u81 u82 u83 u84 u85 u86 u87 u88 u89 u90 u91 u92 u93 u94 u95 u96 u97 u98 u99 u100 u101 u102 u103 u104 u105 u106 u107 u108 u109 u110 u111 u112 u113 u114 u115 u116 u117 u118 u119 u120 u121 u122 u123 u124 u125 u126 u127 u128 u129 u130 u131 u132 u133 u134 u135 u136 u137 u138 u139 u140 u141 u142 u143 u144 u145 u146 u147 u148 u149 u150 u151 u152 u153 u154 u155 u156 u157 u158 u159 u160 u161 u162 u163 u164 u165 u166 u167 u168 u169 u170 u171 u172 u173 u174 u175 u176 u177 u178 u179 u180 u181 u182 u183 u184 u185 u186 u187 u188 u189 u190 u191 u192 u193 u194 u195 u196 u197 u198 u199 u200 u201 u202 u203 u204 u205 u206 u207 u208 u209 u210 u211 u212 u213 u214 u215 u216 u217 u218 u219 u220 u221 u222 u223 u224 u225 u226 u227 u228 u229 u230 u231 u232 u233 u234 u235 u236 u237 u238 u239 u240 u241 u242 u243 u244 u245 u246 u247 u248 u249 u250 u251 : Value) (R : Exit → Act → World → Prop) (hP : Hid (∀ c a d v w, R (.panic c) (Act.put a d v) w → R (.panic c) a w))
    (hR : Hid (∀ (v8 v14 v23 v24 v25 v202 v203 v204 v205 v206 v207 v208 v209 v210 v211 v212 v213 v214 v215 v216 v217 v218 v219 v220 v221 v222 v223 v224 v225 v226 v227 v228 v229 v230 v231 v232 v233 v234 v235 v236 v237 v238 v239 v240 v241 v242 v243 v244 v245 v246 v247 v248 v249 v250 : Value) (L' : List UInt8) (w' : World), L'.length = L.length → Rb w' B0 pb ob k D X L' kd nn → Below B0 w w' → R .normal ⟨#[u0, u1, u2, u3, u4, u5, u6, u7, v8, .pointer (some ⟨pb, 0, none⟩), u10, u11, u12, .pointer (some ⟨ob, 0, none⟩), v14, u15, u16, u17, u18, u19, u20, u21, u22, v23, v24, v25, u26, u27, u28, u29, u30, u31, u32, u33, u34, u35, u36, u37, u38, u39, u40, u41, u42, u43, u44, u45, u46, u47, u48, u49, u50, u51, u52, u53, u54, u55, u56, u57, u58, u59, u60, u61, u62, u63, u64, u65, u66, u67, u68, u69, u70, u71, u72, u73, u74, u75, u76, u77, u78, u79, u80, u81, u82, u83, u84, u85, u86, u87, u88, u89, u90, u91, u92, u93, u94, u95, u96, u97, u98, u99, u100, u101, u102, u103, u104, u105, u106, u107, u108, u109, u110, u111, u112, u113, u114, u115, u116, u117, u118, u119, u120, u121, u122, u123, u124, u125, u126, u127, u128, u129, u130, u131, u132, u133, u134, u135, u136, u137, u138, u139, u140, u141, u142, u143, u144, u145, u146, u147, u148, u149, u150, u151, u152, u153, u154, u155, u156, u157, u158, u159, u160, u161, u162, u163, u164, u165, u166, u167, u168, u169, u170, u171, u172, u173, u174, u175, u176, u177, u178, u179, u180, u181, u182, u183, u184, u185, u186, u187, u188, u189, u190, u191, u192, u193, u194, u195, u196, u197, u198, u199, u200, u201, v202, v203, v204, v205, v206, v207, v208, v209, v210, v211, v212, v213, v214, v215, v216, v217, v218, v219, v220, v221, v222, v223, v224, v225, v226, v227, v228, v229, v230, v231, v232, v233, v234, v235, v236, v237, v238, v239, v240, v241, v242, v243, v244, v245, v246, v247, v248, v249, v250, u251], []⟩ w')) :
    Code.wp Tryd.prog cTail R ⟨#[u0, u1, u2, u3, u4, u5, u6, u7, u8, .pointer (some ⟨pb, 0, none⟩), u10, u11, u12, .pointer (some ⟨ob, 0, none⟩), u14, u15, u16, u17, u18, u19, u20, u21, u22, u23, u24, u25, u26, u27, u28, u29, u30, u31, u32, u33, u34, u35, u36, u37, u38, u39, u40, u41, u42, u43, u44, u45, u46, u47, u48, u49, u50, u51, u52, u53, u54, u55, u56, u57, u58, u59, u60, u61, u62, u63, u64, u65, u66, u67, u68, u69, u70, u71, u72, u73, u74, u75, u76, u77, u78, u79, u80, u81, u82, u83, u84, u85, u86, u87, u88, u89, u90, u91, u92, u93, u94, u95, u96, u97, u98, u99, u100, u101, u102, u103, u104, u105, u106, u107, u108, u109, u110, u111, u112, u113, u114, u115, u116, u117, u118, u119, u120, u121, u122, u123, u124, u125, u126, u127, u128, u129, u130, u131, u132, u133, u134, u135, u136, u137, u138, u139, u140, u141, u142, u143, u144, u145, u146, u147, u148, u149, u150, u151, u152, u153, u154, u155, u156, u157, u158, u159, u160, u161, u162, u163, u164, u165, u166, u167, u168, u169, u170, u171, u172, u173, u174, u175, u176, u177, u178, u179, u180, u181, u182, u183, u184, u185, u186, u187, u188, u189, u190, u191, u192, u193, u194, u195, u196, u197, u198, u199, u200, u201, u202, u203, u204, u205, u206, u207, u208, u209, u210, u211, u212, u213, u214, u215, u216, u217, u218, u219, u220, u221, u222, u223, u224, u225, u226, u227, u228, u229, u230, u231, u232, u233, u234, u235, u236, u237, u238, u239, u240, u241, u242, u243, u244, u245, u246, u247, u248, u249, u250, u251], []⟩ w := by
  obtain ⟨p9, p13, hlt⟩ := hb
  have c9 := blk_cell p9
  have c13 := blk_cell p13
  have z9 := lt_of_block p9
  have z13 := lt_of_block p13
  have hB0 : B0 ≤ w.heap.size := by omega
  have Hlt := Lib.hid hlt
  have Hm := Lib.hid hm
  have hml : m ≤ L.length := by have := pagesF_le_len k L; omega
  have hm64 : m ≤ 64 := by have := pagesF_le k L; omega
  obtain ⟨S, hS⟩ : ∃ S, S = str L := ⟨_, rfl⟩
  have hss : S.size = L.length := by rw [hS, str_size]
  have hbt : ∀ (i : Nat) (h : i < S.size), ((S[i]'h).toNat : Int) = bt L i := by rw [hS]; exact str_bt L
  have hmS : m ≤ S.size := by omega
  have Hbt := Lib.hid hbt
  have Hss := Lib.hid hss
  have hu : usedF k L nn = false := by
    rcases hu : usedF k L nn with _ | _
    · rfl
    · have hu' := (usedF_iff k L nn).1 hu
      omega
  have d3 : decide (0 ≤ nn) = false := by simp; omega
  have d3' : ¬ 0 ≤ nn := by omega
  clear h1
  obtain ⟨C, hC⟩ : ∃ C : Nat → Nat, C = fun j => (L.take j).count 2 := ⟨_, rfl⟩
  have hC0 : C 0 = 0 := by rw [hC]; simp
  have hC1 : Hid (∀ j, j < L.length → C (j + 1) = if bt L j = 2 then C j + 1 else C j) := Lib.hid fun j hj => by
    rw [hC]
    simp only
    rw [List.take_succ_eq_append_getElem hj, List.count_append]
    by_cases h : bt L j = 2
    · rw [if_pos h, (bt_eq L j hj 2).1 h]; rfl
    · rw [if_neg h]
      have h' : L[j] ≠ 2 := fun e => h ((bt_eq L j hj 2).2 e)
      simp [List.count_cons, h']
  have hCle : Hid (∀ j, C j ≤ j) := Lib.hid fun j => by
    rw [hC]
    exact Nat.le_trans List.count_le_length (by rw [List.length_take]; omega)
  have hcm : (L.take m).count 2 = C m := by rw [hC]
  have hrm := fun w => refMap_any k D X L w (by omega)
  have hfr := fun w => free_any k D X L w (by omega)
  have hpg := fun w => pages_any k D X L w (by omega)
  have hus := fun w => used_any k D X nn L w (by omega)
  rw [hm] at hrm hpg hfr
  rw [hcm] at hfr
  rw [hu] at hus
  rw [← hS] at hrm hfr hpg hus
  clear hC hcm hu
  rw [← hS] at p9 c9
  have HS := Lib.hid hS
  clear hS hss hbt hm hlt hl
  conv => arg 2; whnf
  go_wp2_with fail
  with_reducible refine (hrm _).mono ?_
  rintro e w1 ⟨rfl, hb1⟩
  have q9 := blk_keep p9 hb1
  have q13 := blk_keep p13 hb1
  have qb := hb1.mono hB0
  clear c9 c13 z9 z13 p9 p13 hb1
  go_wp2_with fail
  go_loopw [23, 24] (fun u i wr => ∃ (j c : Nat), u = .int .i64 c ∧ i = .int .i64 j ∧ j ≤ m ∧ Hid (c = C j) ∧ wr.heap[pb]? = some (pgo k D X S) ∧ wr.heap[ob]? = some (opo kd nn) ∧ Below B0 w wr) (fun _ i _ => m - (intOf i).toNat)
  case atStart => exact ⟨0, 0, rfl, rfl, Nat.zero_le _, Lib.hid hC0.symm, q9, q13, qb⟩
  case round =>
    clear q9 q13 qb
    obtain ⟨j, c, rfl, rfl, hj, hc, q9, q13, qb⟩ := hrel
    have e9 := blk_cell q9
    have y9 := lt_of_block q9
    have hcj : c ≤ j := by rw [hc.out]; exact hCle.out j
    by_cases hlt : j < m
    · have d1 : decide ((j : Int) < (m : Int)) = true := by simpa using hlt
      have d2 : decide (j < m) = true := by simpa using hlt
      have hjS : j < S.size := by omega
      have hjS' : (j : Int) < (S.size : Int) := by omega
      have hb := Hbt.out j hjS
      have hjl : j < L.length := by have := Hss.out; omega
      have i1 : IntKind.i64.wrap ((j : Int) + 1) = (j : Int) + 1 := IntWalk.i64_in _ (by omega)
      have i2 : IntKind.i64.wrap ((c : Int) + 1) = (c : Int) + 1 := IntWalk.i64_in _ (by omega)
      by_cases h2 : bt L j = 2
      · have c2 : (bt L j == 2) = true := by simpa using h2
        have c2' : decide (bt L j = 2) = true := by simpa using h2
        have hc' : Hid (c + 1 = C (j + 1)) := Lib.hid (by rw [hC1.out j hjl, if_pos h2, hc.out])
        clear h2
        go_wp2_with fail
        go_roundw
        case rel => exact ⟨j + 1, c + 1, by go_num, by go_num, by omega, hc', q9, q13, qb⟩
        case measure => clear i1 i2; simp [intOf]; omega
      · have c2 : (bt L j == 2) = false := by simpa using h2
        have c2' : decide (bt L j = 2) = false := by simpa using h2
        have hc' : Hid (c = C (j + 1)) := Lib.hid (by rw [hC1.out j hjl, if_neg h2, hc.out])
        clear h2
        go_wp2_with fail
        go_roundw
        case rel => exact ⟨j + 1, c, rfl, by go_num, by omega, hc', q9, q13, qb⟩
        case measure => clear i1 i2; simp [intOf]; omega
    · have d1 : decide ((j : Int) < (m : Int)) = false := by simpa using hlt
      have d2 : decide (j < m) = false := by simpa using hlt
      obtain rfl : j = m := by omega
      rw [← hc.out] at hfr
      have e13 := blk_cell q13
      have y13 := lt_of_block q13
      clear hlt hC0 hC1 hCle hc hcj
      go_wp2_with fail
      with_reducible refine (hfr _).mono ?_
      rintro e w2 ⟨rfl, hb2⟩
      have r9 := blk_keep q9 hb2
      have r13 := blk_keep q13 hb2
      have rb := below_base qb (by have := qb.size; omega) hb2
      have f9 := blk_cell r9
      have g9 := lt_of_block r9
      have f13 := blk_cell r13
      have g13 := lt_of_block r13
      clear e9 y9 e13 y13 q9 q13 qb hb2
      go_wp2_with fail
      with_reducible refine (hpg _).mono ?_
      rintro e w3 ⟨rfl, hb3⟩
      have s9 := blk_keep r9 hb3
      have s13 := blk_keep r13 hb3
      have sb := below_base rb (by have := rb.size; omega) hb3
      have e9 := blk_cell s9
      have y9 := lt_of_block s9
      have e13 := blk_cell s13
      have y13 := lt_of_block s13
      clear f9 g9 f13 g13 r9 r13 rb hb3
      go_wp2_with fail
      with_reducible refine (hus _).mono ?_
      rintro e w4 ⟨rfl, hb4⟩
      have t9 := blk_keep s9 hb4
      have t13 := blk_keep s13 hb4
      have tb := below_base sb (by have := sb.size; omega) hb4
      clear e9 y9 e13 y13 s9 s13 sb hb4
      go_wp2_with fail
      with_reducible refine hR.out _ _ _ _ _ _ _ _ _ _ _ _ _ _ _ _ _ _ _ _ _ _ _ _ _ _ _ _ _ _ _ _ _ _ _ _ _ _ _ _ _ _ _ _ _ _ _ _ _ _ _ _ _ _ L _ rfl ⟨by rw [← HS.out]; exact t9, t13, by have := Hlt.out; have := lt_of_block t13; omega⟩ tb
set_option maxRecDepth 1000000 in
set_option maxHeartbeats 8000000 in
theorem tail_hi (w : World) (B0 pb ob : Nat) (k D X : Int) (L : List UInt8) (kd nn : Int) (m : Nat) (hm : pagesF k L = m) (hl : L.length ≤ 300) (hb : Rb w B0 pb ob k D X L kd nn) (h1 : ¬ nn < 0) (h2 : (m : Int) ≤ nn)
    (u0 u1 u2 u3 u4 u5 u6 u7 u8 u10 u11 u12 u14 u15 u16 u17 u18 u19 u20 u21 u22 u23 u24 u25 u26 u27 u28 u29 u30 u31 u32 u33 u34 u35 u36 u37 u38 u39 u40 u41 u42 u43 u44 u45 u46 u47 u48 u49 u50 u51 u52 u53 u54 u55 u56 u57 u58 u59 u60 u61 u62 u63 u64 u65 u66 u67 u68 u69 u70 u71 u72 u73 u74 u75 u76 u77 u78 u79 u80 u81 u82 u83 u84 u85 u86 u87 u88 u89 u90 u91 u92 u93 u94 u95 u96 u97 u98 u99 u100 u101 u102 u103 u104 u105 u106 u107 u108 u109 u110 u111 u112 u113 u114 u115 u116 u117 u118 u119 u120 u121 u122 u123 u124 u125 u126 u127 u128 u129 u130 u131 u132 u133 u134 u135 u136 u137 u138 u139 u140 u141 u142 u143 u144 u145 u146 u147 u148 u149 u150 u151 u152 u153 u154 u155 u156 u157 u158 u159 u160 u161 u162 u163 u164 u165 u166 u167 u168 u169 u170 u171 u172 u173 u174 u175 u176 u177 u178 u179 u180 u181 u182 u183 u184 u185 u186 u187 u188 u189 u190 u191 u192 u193 u194 u195 u196 u197 u198 u199 u200 u201 u202 u203 u204 u205 u206 u207 u208 u209 u210 u211 u212 u213 u214 u215 u216 u217 u218 u219 u220 u221 u222 u223 u224 u225 u226 u227 u228 u229 u230 u231 u232 u233 u234 u235 u236 u237 u238 u239 u240 u241 u242 u243 u244 u245 u246 u247 u248 u249 u250 u251 : Value) (R : Exit → Act → World → Prop) (hP : Hid (∀ c a d v w, R (.panic c) (Act.put a d v) w → R (.panic c) a w))
    (hR : Hid (∀ (v8 v14 v23 v24 v25 v202 v203 v204 v205 v206 v207 v208 v209 v210 v211 v212 v213 v214 v215 v216 v217 v218 v219 v220 v221 v222 v223 v224 v225 v226 v227 v228 v229 v230 v231 v232 v233 v234 v235 v236 v237 v238 v239 v240 v241 v242 v243 v244 v245 v246 v247 v248 v249 v250 : Value) (L' : List UInt8) (w' : World), L'.length = L.length → Rb w' B0 pb ob k D X L' kd nn → Below B0 w w' → R .normal ⟨#[u0, u1, u2, u3, u4, u5, u6, u7, v8, .pointer (some ⟨pb, 0, none⟩), u10, u11, u12, .pointer (some ⟨ob, 0, none⟩), v14, u15, u16, u17, u18, u19, u20, u21, u22, v23, v24, v25, u26, u27, u28, u29, u30, u31, u32, u33, u34, u35, u36, u37, u38, u39, u40, u41, u42, u43, u44, u45, u46, u47, u48, u49, u50, u51, u52, u53, u54, u55, u56, u57, u58, u59, u60, u61, u62, u63, u64, u65, u66, u67, u68, u69, u70, u71, u72, u73, u74, u75, u76, u77, u78, u79, u80, u81, u82, u83, u84, u85, u86, u87, u88, u89, u90, u91, u92, u93, u94, u95, u96, u97, u98, u99, u100, u101, u102, u103, u104, u105, u106, u107, u108, u109, u110, u111, u112, u113, u114, u115, u116, u117, u118, u119, u120, u121, u122, u123, u124, u125, u126, u127, u128, u129, u130, u131, u132, u133, u134, u135, u136, u137, u138, u139, u140, u141, u142, u143, u144, u145, u146, u147, u148, u149, u150, u151, u152, u153, u154, u155, u156, u157, u158, u159, u160, u161, u162, u163, u164, u165, u166, u167, u168, u169, u170, u171, u172, u173, u174, u175, u176, u177, u178, u179, u180, u181, u182, u183, u184, u185, u186, u187, u188, u189, u190, u191, u192, u193, u194, u195, u196, u197, u198, u199, u200, u201, v202, v203, v204, v205, v206, v207, v208, v209, v210, v211, v212, v213, v214, v215, v216, v217, v218, v219, v220, v221, v222, v223, v224, v225, v226, v227, v228, v229, v230, v231, v232, v233, v234, v235, v236, v237, v238, v239, v240, v241, v242, v243, v244, v245, v246, v247, v248, v249, v250, u251], []⟩ w')) :
    Code.wp Tryd.prog cTail R ⟨#[u0, u1, u2, u3, u4, u5, u6, u7, u8, .pointer (some ⟨pb, 0, none⟩), u10, u11, u12, .pointer (some ⟨ob, 0, none⟩), u14, u15, u16, u17, u18, u19, u20, u21, u22, u23, u24, u25, u26, u27, u28, u29, u30, u31, u32, u33, u34, u35, u36, u37, u38, u39, u40, u41, u42, u43, u44, u45, u46, u47, u48, u49, u50, u51, u52, u53, u54, u55, u56, u57, u58, u59, u60, u61, u62, u63, u64, u65, u66, u67, u68, u69, u70, u71, u72, u73, u74, u75, u76, u77, u78, u79, u80, u81, u82, u83, u84, u85, u86, u87, u88, u89, u90, u91, u92, u93, u94, u95, u96, u97, u98, u99, u100, u101, u102, u103, u104, u105, u106, u107, u108, u109, u110, u111, u112, u113, u114, u115, u116, u117, u118, u119, u120, u121, u122, u123, u124, u125, u126, u127, u128, u129, u130, u131, u132, u133, u134, u135, u136, u137, u138, u139, u140, u141, u142, u143, u144, u145, u146, u147, u148, u149, u150, u151, u152, u153, u154, u155, u156, u157, u158, u159, u160, u161, u162, u163, u164, u165, u166, u167, u168, u169, u170, u171, u172, u173, u174, u175, u176, u177, u178, u179, u180, u181, u182, u183, u184, u185, u186, u187, u188, u189, u190, u191, u192, u193, u194, u195, u196, u197, u198, u199, u200, u201, u202, u203, u204, u205, u206, u207, u208, u209, u210, u211, u212, u213, u214, u215, u216, u217, u218, u219, u220, u221, u222, u223, u224, u225, u226, u227, u228, u229, u230, u231, u232, u233, u234, u235, u236, u237, u238, u239, u240, u241, u242, u243, u244, u245, u246, u247, u248, u249, u250, u251], []⟩ w := by
  obtain ⟨p9, p13, hlt⟩ := hb
  have c9 := blk_cell p9
  have c13 := blk_cell p13
  have z9 := lt_of_block p9
  have z13 := lt_of_block p13
  have hB0 : B0 ≤ w.heap.size := by omega
  have Hlt := Lib.hid hlt
  have Hm := Lib.hid hm
  have hml : m ≤ L.length := by have := pagesF_le_len k L; omega
  have hm64 : m ≤ 64 := by have := pagesF_le k L; omega
  obtain ⟨S, hS⟩ : ∃ S, S = str L := ⟨_, rfl⟩
  have hss : S.size = L.length := by rw [hS, str_size]
  have hbt : ∀ (i : Nat) (h : i < S.size), ((S[i]'h).toNat : Int) = bt L i := by rw [hS]; exact str_bt L
  have hmS : m ≤ S.size := by omega
  have Hbt := Lib.hid hbt
  have Hss := Lib.hid hss
  have hu : usedF k L nn = false := by
    rcases hu : usedF k L nn with _ | _
    · rfl
    · have hu' := (usedF_iff k L nn).1 hu
      omega
  have d3 : decide (0 ≤ nn) = true := by simp; omega
  have d4 : decide (nn < (m : Int)) = false := by simp; omega
  have d3' : 0 ≤ nn := by omega
  clear h1 h2
  obtain ⟨C, hC⟩ : ∃ C : Nat → Nat, C = fun j => (L.take j).count 2 := ⟨_, rfl⟩
  have hC0 : C 0 = 0 := by rw [hC]; simp
  have hC1 : Hid (∀ j, j < L.length → C (j + 1) = if bt L j = 2 then C j + 1 else C j) := Lib.hid fun j hj => by
    rw [hC]
    simp only
    rw [List.take_succ_eq_append_getElem hj, List.count_append]
    by_cases h : bt L j = 2
    · rw [if_pos h, (bt_eq L j hj 2).1 h]; rfl
    · rw [if_neg h]
      have h' : L[j] ≠ 2 := fun e => h ((bt_eq L j hj 2).2 e)
      simp [List.count_cons, h']
  have hCle : Hid (∀ j, C j ≤ j) := Lib.hid fun j => by
    rw [hC]
    exact Nat.le_trans List.count_le_length (by rw [List.length_take]; omega)
  have hcm : (L.take m).count 2 = C m := by rw [hC]
  have hrm := fun w => refMap_any k D X L w (by omega)
  have hfr := fun w => free_any k D X L w (by omega)
  have hpg := fun w => pages_any k D X L w (by omega)
  have hus := fun w => used_any k D X nn L w (by omega)
  rw [hm] at hrm hpg hfr
  rw [hcm] at hfr
  rw [hu] at hus
  rw [← hS] at hrm hfr hpg hus
  clear hC hcm hu
  rw [← hS] at p9 c9
  have HS := Lib.hid hS
  clear hS hss hbt hm hlt hl
  conv => arg 2; whnf
  go_wp2_with fail
  with_reducible refine (hrm _).mono ?_
  rintro e w1 ⟨rfl, hb1⟩
  have q9 := blk_keep p9 hb1
  have q13 := blk_keep p13 hb1
  have qb := hb1.mono hB0
  clear c9 c13 z9 z13 p9 p13 hb1
  go_wp2_with fail
  go_loopw [23, 24] (fun u i wr => ∃ (j c : Nat), u = .int .i64 c ∧ i = .int .i64 j ∧ j ≤ m ∧ Hid (c = C j) ∧ wr.heap[pb]? = some (pgo k D X S) ∧ wr.heap[ob]? = some (opo kd nn) ∧ Below B0 w wr) (fun _ i _ => m - (intOf i).toNat)
  case atStart => exact ⟨0, 0, rfl, rfl, Nat.zero_le _, Lib.hid hC0.symm, q9, q13, qb⟩
  case round =>
    clear q9 q13 qb
    obtain ⟨j, c, rfl, rfl, hj, hc, q9, q13, qb⟩ := hrel
    have e9 := blk_cell q9
    have y9 := lt_of_block q9
    have hcj : c ≤ j := by rw [hc.out]; exact hCle.out j
    by_cases hlt : j < m
    · have d1 : decide ((j : Int) < (m : Int)) = true := by simpa using hlt
      have d2 : decide (j < m) = true := by simpa using hlt
      have hjS : j < S.size := by omega
      have hjS' : (j : Int) < (S.size : Int) := by omega
      have hb := Hbt.out j hjS
      have hjl : j < L.length := by have := Hss.out; omega
      have i1 : IntKind.i64.wrap ((j : Int) + 1) = (j : Int) + 1 := IntWalk.i64_in _ (by omega)
      have i2 : IntKind.i64.wrap ((c : Int) + 1) = (c : Int) + 1 := IntWalk.i64_in _ (by omega)
      by_cases h2 : bt L j = 2
      · have c2 : (bt L j == 2) = true := by simpa using h2
        have c2' : decide (bt L j = 2) = true := by simpa using h2
        have hc' : Hid (c + 1 = C (j + 1)) := Lib.hid (by rw [hC1.out j hjl, if_pos h2, hc.out])
        clear h2
        go_wp2_with fail
        go_roundw
        case rel => exact ⟨j + 1, c + 1, by go_num, by go_num, by omega, hc', q9, q13, qb⟩
        case measure => clear i1 i2; simp [intOf]; omega
      · have c2 : (bt L j == 2) = false := by simpa using h2
        have c2' : decide (bt L j = 2) = false := by simpa using h2
        have hc' : Hid (c = C (j + 1)) := Lib.hid (by rw [hC1.out j hjl, if_neg h2, hc.out])
        clear h2
        go_wp2_with fail
        go_roundw
        case rel => exact ⟨j + 1, c, rfl, by go_num, by omega, hc', q9, q13, qb⟩
        case measure => clear i1 i2; simp [intOf]; omega
    · have d1 : decide ((j : Int) < (m : Int)) = false := by simpa using hlt
      have d2 : decide (j < m) = false := by simpa using hlt
      obtain rfl : j = m := by omega
      rw [← hc.out] at hfr
      have e13 := blk_cell q13
      have y13 := lt_of_block q13
      clear hlt hC0 hC1 hCle hc hcj
      go_wp2_with fail
      with_reducible refine (hfr _).mono ?_
      rintro e w2 ⟨rfl, hb2⟩
      have r9 := blk_keep q9 hb2
      have r13 := blk_keep q13 hb2
      have rb := below_base qb (by have := qb.size; omega) hb2
      have f9 := blk_cell r9
      have g9 := lt_of_block r9
      have f13 := blk_cell r13
      have g13 := lt_of_block r13
      clear e9 y9 e13 y13 q9 q13 qb hb2
      go_wp2_with fail
      with_reducible refine (hpg _).mono ?_
      rintro e w3 ⟨rfl, hb3⟩
      have s9 := blk_keep r9 hb3
      have s13 := blk_keep r13 hb3
      have sb := below_base rb (by have := rb.size; omega) hb3
      have e9 := blk_cell s9
      have y9 := lt_of_block s9
      have e13 := blk_cell s13
      have y13 := lt_of_block s13
      clear f9 g9 f13 g13 r9 r13 rb hb3
      go_wp2_with fail
      with_reducible refine (hus _).mono ?_
      rintro e w4 ⟨rfl, hb4⟩
      have t9 := blk_keep s9 hb4
      have t13 := blk_keep s13 hb4
      have tb := below_base sb (by have := sb.size; omega) hb4
      clear e9 y9 e13 y13 s9 s13 sb hb4
      go_wp2_with fail
      with_reducible refine hR.out _ _ _ _ _ _ _ _ _ _ _ _ _ _ _ _ _ _ _ _ _ _ _ _ _ _ _ _ _ _ _ _ _ _ _ _ _ _ _ _ _ _ _ _ _ _ _ _ _ _ _ _ _ _ L _ rfl ⟨by rw [← HS.out]; exact t9, t13, by have := Hlt.out; have := lt_of_block t13; omega⟩ tb
set_option maxRecDepth 1000000 in
set_option maxHeartbeats 8000000 in
theorem tail_one (w : World) (B0 pb ob : Nat) (k D X : Int) (L : List UInt8) (kd nn : Int) (m : Nat) (hm : pagesF k L = m) (hl : L.length ≤ 300) (hb : Rb w B0 pb ob k D X L kd nn) (n : Nat) (hn : nn = n) (h2 : n < m) (h3 : bt L n = 1)
    (u0 u1 u2 u3 u4 u5 u6 u7 u8 u10 u11 u12 u14 u15 u16 u17 u18 u19 u20 u21 u22 u23 u24 u25 u26 u27 u28 u29 u30 u31 u32 u33 u34 u35 u36 u37 u38 u39 u40 u41 u42 u43 u44 u45 u46 u47 u48 u49 u50 u51 u52 u53 u54 u55 u56 u57 u58 u59 u60 u61 u62 u63 u64 u65 u66 u67 u68 u69 u70 u71 u72 u73 u74 u75 u76 u77 u78 u79 u80 u81 u82 u83 u84 u85 u86 u87 u88 u89 u90 u91 u92 u93 u94 u95 u96 u97 u98 u99 u100 u101 u102 u103 u104 u105 u106 u107 u108 u109 u110 u111 u112 u113 u114 u115 u116 u117 u118 u119 u120 u121 u122 u123 u124 u125 u126 u127 u128 u129 u130 u131 u132 u133 u134 u135 u136 u137 u138 u139 u140 u141 u142 u143 u144 u145 u146 u147 u148 u149 u150 u151 u152 u153 u154 u155 u156 u157 u158 u159 u160 u161 u162 u163 u164 u165 u166 u167 u168 u169 u170 u171 u172 u173 u174 u175 u176 u177 u178 u179 u180 u181 u182 u183 u184 u185 u186 u187 u188 u189 u190 u191 u192 u193 u194 u195 u196 u197 u198 u199 u200 u201 u202 u203 u204 u205 u206 u207 u208 u209 u210 u211 u212 u213 u214 u215 u216 u217 u218 u219 u220 u221 u222 u223 u224 u225 u226 u227 u228 u229 u230 u231 u232 u233 u234 u235 u236 u237 u238 u239 u240 u241 u242 u243 u244 u245 u246 u247 u248 u249 u250 u251 : Value) (R : Exit → Act → World → Prop) (hP : Hid (∀ c a d v w, R (.panic c) (Act.put a d v) w → R (.panic c) a w))
    (hR : Hid (∀ (v8 v14 v23 v24 v25 v202 v203 v204 v205 v206 v207 v208 v209 v210 v211 v212 v213 v214 v215 v216 v217 v218 v219 v220 v221 v222 v223 v224 v225 v226 v227 v228 v229 v230 v231 v232 v233 v234 v235 v236 v237 v238 v239 v240 v241 v242 v243 v244 v245 v246 v247 v248 v249 v250 : Value) (L' : List UInt8) (w' : World), L'.length = L.length → Rb w' B0 pb ob k D X L' kd nn → Below B0 w w' → R .normal ⟨#[u0, u1, u2, u3, u4, u5, u6, u7, v8, .pointer (some ⟨pb, 0, none⟩), u10, u11, u12, .pointer (some ⟨ob, 0, none⟩), v14, u15, u16, u17, u18, u19, u20, u21, u22, v23, v24, v25, u26, u27, u28, u29, u30, u31, u32, u33, u34, u35, u36, u37, u38, u39, u40, u41, u42, u43, u44, u45, u46, u47, u48, u49, u50, u51, u52, u53, u54, u55, u56, u57, u58, u59, u60, u61, u62, u63, u64, u65, u66, u67, u68, u69, u70, u71, u72, u73, u74, u75, u76, u77, u78, u79, u80, u81, u82, u83, u84, u85, u86, u87, u88, u89, u90, u91, u92, u93, u94, u95, u96, u97, u98, u99, u100, u101, u102, u103, u104, u105, u106, u107, u108, u109, u110, u111, u112, u113, u114, u115, u116, u117, u118, u119, u120, u121, u122, u123, u124, u125, u126, u127, u128, u129, u130, u131, u132, u133, u134, u135, u136, u137, u138, u139, u140, u141, u142, u143, u144, u145, u146, u147, u148, u149, u150, u151, u152, u153, u154, u155, u156, u157, u158, u159, u160, u161, u162, u163, u164, u165, u166, u167, u168, u169, u170, u171, u172, u173, u174, u175, u176, u177, u178, u179, u180, u181, u182, u183, u184, u185, u186, u187, u188, u189, u190, u191, u192, u193, u194, u195, u196, u197, u198, u199, u200, u201, v202, v203, v204, v205, v206, v207, v208, v209, v210, v211, v212, v213, v214, v215, v216, v217, v218, v219, v220, v221, v222, v223, v224, v225, v226, v227, v228, v229, v230, v231, v232, v233, v234, v235, v236, v237, v238, v239, v240, v241, v242, v243, v244, v245, v246, v247, v248, v249, v250, u251], []⟩ w')) :
    Code.wp Tryd.prog cTail R ⟨#[u0, u1, u2, u3, u4, u5, u6, u7, u8, .pointer (some ⟨pb, 0, none⟩), u10, u11, u12, .pointer (some ⟨ob, 0, none⟩), u14, u15, u16, u17, u18, u19, u20, u21, u22, u23, u24, u25, u26, u27, u28, u29, u30, u31, u32, u33, u34, u35, u36, u37, u38, u39, u40, u41, u42, u43, u44, u45, u46, u47, u48, u49, u50, u51, u52, u53, u54, u55, u56, u57, u58, u59, u60, u61, u62, u63, u64, u65, u66, u67, u68, u69, u70, u71, u72, u73, u74, u75, u76, u77, u78, u79, u80, u81, u82, u83, u84, u85, u86, u87, u88, u89, u90, u91, u92, u93, u94, u95, u96, u97, u98, u99, u100, u101, u102, u103, u104, u105, u106, u107, u108, u109, u110, u111, u112, u113, u114, u115, u116, u117, u118, u119, u120, u121, u122, u123, u124, u125, u126, u127, u128, u129, u130, u131, u132, u133, u134, u135, u136, u137, u138, u139, u140, u141, u142, u143, u144, u145, u146, u147, u148, u149, u150, u151, u152, u153, u154, u155, u156, u157, u158, u159, u160, u161, u162, u163, u164, u165, u166, u167, u168, u169, u170, u171, u172, u173, u174, u175, u176, u177, u178, u179, u180, u181, u182, u183, u184, u185, u186, u187, u188, u189, u190, u191, u192, u193, u194, u195, u196, u197, u198, u199, u200, u201, u202, u203, u204, u205, u206, u207, u208, u209, u210, u211, u212, u213, u214, u215, u216, u217, u218, u219, u220, u221, u222, u223, u224, u225, u226, u227, u228, u229, u230, u231, u232, u233, u234, u235, u236, u237, u238, u239, u240, u241, u242, u243, u244, u245, u246, u247, u248, u249, u250, u251], []⟩ w := by
  subst hn
  obtain ⟨p9, p13, hlt⟩ := hb
  have c9 := blk_cell p9
  have c13 := blk_cell p13
  have z9 := lt_of_block p9
  have z13 := lt_of_block p13
  have hB0 : B0 ≤ w.heap.size := by omega
  have Hlt := Lib.hid hlt
  have Hm := Lib.hid hm
  have hml : m ≤ L.length := by have := pagesF_le_len k L; omega
  have hm64 : m ≤ 64 := by have := pagesF_le k L; omega
  obtain ⟨S, hS⟩ : ∃ S, S = str L := ⟨_, rfl⟩
  have hss : S.size = L.length := by rw [hS, str_size]
  have hbt : ∀ (i : Nat) (h : i < S.size), ((S[i]'h).toNat : Int) = bt L i := by rw [hS]; exact str_bt L
  have hmS : m ≤ S.size := by omega
  have Hbt := Lib.hid hbt
  have Hss := Lib.hid hss
  have hu : usedF k L n = true := (usedF_iff k L n).2 ⟨by omega, by omega, by rw [Int.toNat_natCast]; exact h3⟩
  have d3 : decide ((0 : Int) ≤ (n : Int)) = true := by simp
  have d4 : decide ((n : Int) < (m : Int)) = true := by simpa using h2
  have d5 : decide (n < m) = true := by simpa using h2
  have hnS : n < S.size := by omega
  have hnS' : (n : Int) < (S.size : Int) := by omega
  have hn0 : (0 : Int) ≤ (n : Int) := by omega
  have hbn := hbt n hnS
  have d6 : (bt L n == 1) = true := by simpa using h3
  have d6' : decide (bt L n = 1) = true := by simpa using h3
  clear h2 h3
  obtain ⟨C, hC⟩ : ∃ C : Nat → Nat, C = fun j => (L.take j).count 2 := ⟨_, rfl⟩
  have hC0 : C 0 = 0 := by rw [hC]; simp
  have hC1 : Hid (∀ j, j < L.length → C (j + 1) = if bt L j = 2 then C j + 1 else C j) := Lib.hid fun j hj => by
    rw [hC]
    simp only
    rw [List.take_succ_eq_append_getElem hj, List.count_append]
    by_cases h : bt L j = 2
    · rw [if_pos h, (bt_eq L j hj 2).1 h]; rfl
    · rw [if_neg h]
      have h' : L[j] ≠ 2 := fun e => h ((bt_eq L j hj 2).2 e)
      simp [List.count_cons, h']
  have hCle : Hid (∀ j, C j ≤ j) := Lib.hid fun j => by
    rw [hC]
    exact Nat.le_trans List.count_le_length (by rw [List.length_take]; omega)
  have hcm : (L.take m).count 2 = C m := by rw [hC]
  have hrm := fun w => refMap_any k D X L w (by omega)
  have hfr := fun w => free_any k D X L w (by omega)
  have hpg := fun w => pages_any k D X L w (by omega)
  have hus := fun w => used_any k D X n L w (by omega)
  rw [hm] at hrm hpg hfr
  rw [hcm] at hfr
  rw [hu] at hus
  rw [← hS] at hrm hfr hpg hus
  clear hC hcm hu
  rw [← hS] at p9 c9
  have HS := Lib.hid hS
  clear hS hss hbt hm hlt hl
  conv => arg 2; whnf
  go_wp2_with fail
  with_reducible refine (hrm _).mono ?_
  rintro e w1 ⟨rfl, hb1⟩
  have q9 := blk_keep p9 hb1
  have q13 := blk_keep p13 hb1
  have qb := hb1.mono hB0
  clear c9 c13 z9 z13 p9 p13 hb1
  go_wp2_with fail
  go_loopw [23, 24] (fun u i wr => ∃ (j c : Nat), u = .int .i64 c ∧ i = .int .i64 j ∧ j ≤ m ∧ Hid (c = C j) ∧ wr.heap[pb]? = some (pgo k D X S) ∧ wr.heap[ob]? = some (opo kd n) ∧ Below B0 w wr) (fun _ i _ => m - (intOf i).toNat)
  case atStart => exact ⟨0, 0, rfl, rfl, Nat.zero_le _, Lib.hid hC0.symm, q9, q13, qb⟩
  case round =>
    clear q9 q13 qb
    obtain ⟨j, c, rfl, rfl, hj, hc, q9, q13, qb⟩ := hrel
    have e9 := blk_cell q9
    have y9 := lt_of_block q9
    have hcj : c ≤ j := by rw [hc.out]; exact hCle.out j
    by_cases hlt : j < m
    · have d1 : decide ((j : Int) < (m : Int)) = true := by simpa using hlt
      have d2 : decide (j < m) = true := by simpa using hlt
      have hjS : j < S.size := by omega
      have hjS' : (j : Int) < (S.size : Int) := by omega
      have hb := Hbt.out j hjS
      have hjl : j < L.length := by have := Hss.out; omega
      have i1 : IntKind.i64.wrap ((j : Int) + 1) = (j : Int) + 1 := IntWalk.i64_in _ (by omega)
      have i2 : IntKind.i64.wrap ((c : Int) + 1) = (c : Int) + 1 := IntWalk.i64_in _ (by omega)
      by_cases h2 : bt L j = 2
      · have c2 : (bt L j == 2) = true := by simpa using h2
        have c2' : decide (bt L j = 2) = true := by simpa using h2
        have hc' : Hid (c + 1 = C (j + 1)) := Lib.hid (by rw [hC1.out j hjl, if_pos h2, hc.out])
        clear h2
        go_wp2_with fail
        go_roundw
        case rel => exact ⟨j + 1, c + 1, by go_num, by go_num, by omega, hc', q9, q13, qb⟩
        case measure => clear i1 i2; simp [intOf]; omega
      · have c2 : (bt L j == 2) = false := by simpa using h2
        have c2' : decide (bt L j = 2) = false := by simpa using h2
        have hc' : Hid (c = C (j + 1)) := Lib.hid (by rw [hC1.out j hjl, if_neg h2, hc.out])
        clear h2
        go_wp2_with fail
        go_roundw
        case rel => exact ⟨j + 1, c, rfl, by go_num, by omega, hc', q9, q13, qb⟩
        case measure => clear i1 i2; simp [intOf]; omega
    · have d1 : decide ((j : Int) < (m : Int)) = false := by simpa using hlt
      have d2 : decide (j < m) = false := by simpa using hlt
      obtain rfl : j = m := by omega
      rw [← hc.out] at hfr
      have e13 := blk_cell q13
      have y13 := lt_of_block q13
      clear hlt hC0 hC1 hCle hc hcj
      go_wp2_with fail
      with_reducible refine (hfr _).mono ?_
      rintro e w2 ⟨rfl, hb2⟩
      have r9 := blk_keep q9 hb2
      have r13 := blk_keep q13 hb2
      have rb := below_base qb (by have := qb.size; omega) hb2
      have f9 := blk_cell r9
      have g9 := lt_of_block r9
      have f13 := blk_cell r13
      have g13 := lt_of_block r13
      clear e9 y9 e13 y13 q9 q13 qb hb2
      go_wp2_with fail
      with_reducible refine (hpg _).mono ?_
      rintro e w3 ⟨rfl, hb3⟩
      have s9 := blk_keep r9 hb3
      have s13 := blk_keep r13 hb3
      have sb := below_base rb (by have := rb.size; omega) hb3
      have e9 := blk_cell s9
      have y9 := lt_of_block s9
      have e13 := blk_cell s13
      have y13 := lt_of_block s13
      clear f9 g9 f13 g13 r9 r13 rb hb3
      go_wp2_with fail
      with_reducible refine (hus _).mono ?_
      rintro e w4 ⟨rfl, hb4⟩
      have t9 := blk_keep s9 hb4
      have t13 := blk_keep s13 hb4
      have tb := below_base sb (by have := sb.size; omega) hb4
      clear e9 y9 e13 y13 s9 s13 sb hb4
      go_wp2_with fail
      with_reducible refine hR.out _ _ _ _ _ _ _ _ _ _ _ _ _ _ _ _ _ _ _ _ _ _ _ _ _ _ _ _ _ _ _ _ _ _ _ _ _ _ _ _ _ _ _ _ _ _ _ _ _ _ _ _ _ _ L _ rfl ⟨by rw [← HS.out]; exact t9, t13, by have := Hlt.out; have := lt_of_block t13; omega⟩ tb
set_option maxRecDepth 1000000 in
set_option maxHeartbeats 8000000 in
theorem tail_not (w : World) (B0 pb ob : Nat) (k D X : Int) (L : List UInt8) (kd nn : Int) (m : Nat) (hm : pagesF k L = m) (hl : L.length ≤ 300) (hb : Rb w B0 pb ob k D X L kd nn) (n : Nat) (hn : nn = n) (h2 : n < m) (h3 : bt L n ≠ 1)
    (u0 u1 u2 u3 u4 u5 u6 u7 u8 u10 u11 u12 u14 u15 u16 u17 u18 u19 u20 u21 u22 u23 u24 u25 u26 u27 u28 u29 u30 u31 u32 u33 u34 u35 u36 u37 u38 u39 u40 u41 u42 u43 u44 u45 u46 u47 u48 u49 u50 u51 u52 u53 u54 u55 u56 u57 u58 u59 u60 u61 u62 u63 u64 u65 u66 u67 u68 u69 u70 u71 u72 u73 u74 u75 u76 u77 u78 u79 u80 u81 u82 u83 u84 u85 u86 u87 u88 u89 u90 u91 u92 u93 u94 u95 u96 u97 u98 u99 u100 u101 u102 u103 u104 u105 u106 u107 u108 u109 u110 u111 u112 u113 u114 u115 u116 u117 u118 u119 u120 u121 u122 u123 u124 u125 u126 u127 u128 u129 u130 u131 u132 u133 u134 u135 u136 u137 u138 u139 u140 u141 u142 u143 u144 u145 u146 u147 u148 u149 u150 u151 u152 u153 u154 u155 u156 u157 u158 u159 u160 u161 u162 u163 u164 u165 u166 u167 u168 u169 u170 u171 u172 u173 u174 u175 u176 u177 u178 u179 u180 u181 u182 u183 u184 u185 u186 u187 u188 u189 u190 u191 u192 u193 u194 u195 u196 u197 u198 u199 u200 u201 u202 u203 u204 u205 u206 u207 u208 u209 u210 u211 u212 u213 u214 u215 u216 u217 u218 u219 u220 u221 u222 u223 u224 u225 u226 u227 u228 u229 u230 u231 u232 u233 u234 u235 u236 u237 u238 u239 u240 u241 u242 u243 u244 u245 u246 u247 u248 u249 u250 u251 : Value) (R : Exit → Act → World → Prop) (hP : Hid (∀ c a d v w, R (.panic c) (Act.put a d v) w → R (.panic c) a w))
    (hR : Hid (∀ (v8 v14 v23 v24 v25 v202 v203 v204 v205 v206 v207 v208 v209 v210 v211 v212 v213 v214 v215 v216 v217 v218 v219 v220 v221 v222 v223 v224 v225 v226 v227 v228 v229 v230 v231 v232 v233 v234 v235 v236 v237 v238 v239 v240 v241 v242 v243 v244 v245 v246 v247 v248 v249 v250 : Value) (L' : List UInt8) (w' : World), L'.length = L.length → Rb w' B0 pb ob k D X L' kd nn → Below B0 w w' → R .normal ⟨#[u0, u1, u2, u3, u4, u5, u6, u7, v8, .pointer (some ⟨pb, 0, none⟩), u10, u11, u12, .pointer (some ⟨ob, 0, none⟩), v14, u15, u16, u17, u18, u19, u20, u21, u22, v23, v24, v25, u26, u27, u28, u29, u30, u31, u32, u33, u34, u35, u36, u37, u38, u39, u40, u41, u42, u43, u44, u45, u46, u47, u48, u49, u50, u51, u52, u53, u54, u55, u56, u57, u58, u59, u60, u61, u62, u63, u64, u65, u66, u67, u68, u69, u70, u71, u72, u73, u74, u75, u76, u77, u78, u79, u80, u81, u82, u83, u84, u85, u86, u87, u88, u89, u90, u91, u92, u93, u94, u95, u96, u97, u98, u99, u100, u101, u102, u103, u104, u105, u106, u107, u108, u109, u110, u111, u112, u113, u114, u115, u116, u117, u118, u119, u120, u121, u122, u123, u124, u125, u126, u127, u128, u129, u130, u131, u132, u133, u134, u135, u136, u137, u138, u139, u140, u141, u142, u143, u144, u145, u146, u147, u148, u149, u150, u151, u152, u153, u154, u155, u156, u157, u158, u159, u160, u161, u162, u163, u164, u165, u166, u167, u168, u169, u170, u171, u172, u173, u174, u175, u176, u177, u178, u179, u180, u181, u182, u183, u184, u185, u186, u187, u188, u189, u190, u191, u192, u193, u194, u195, u196, u197, u198, u199, u200, u201, v202, v203, v204, v205, v206, v207, v208, v209, v210, v211, v212, v213, v214, v215, v216, v217, v218, v219, v220, v221, v222, v223, v224, v225, v226, v227, v228, v229, v230, v231, v232, v233, v234, v235, v236, v237, v238, v239, v240, v241, v242, v243, v244, v245, v246, v247, v248, v249, v250, u251], []⟩ w')) :
    Code.wp Tryd.prog cTail R ⟨#[u0, u1, u2, u3, u4, u5, u6, u7, u8, .pointer (some ⟨pb, 0, none⟩), u10, u11, u12, .pointer (some ⟨ob, 0, none⟩), u14, u15, u16, u17, u18, u19, u20, u21, u22, u23, u24, u25, u26, u27, u28, u29, u30, u31, u32, u33, u34, u35, u36, u37, u38, u39, u40, u41, u42, u43, u44, u45, u46, u47, u48, u49, u50, u51, u52, u53, u54, u55, u56, u57, u58, u59, u60, u61, u62, u63, u64, u65, u66, u67, u68, u69, u70, u71, u72, u73, u74, u75, u76, u77, u78, u79, u80, u81, u82, u83, u84, u85, u86, u87, u88, u89, u90, u91, u92, u93, u94, u95, u96, u97, u98, u99, u100, u101, u102, u103, u104, u105, u106, u107, u108, u109, u110, u111, u112, u113, u114, u115, u116, u117, u118, u119, u120, u121, u122, u123, u124, u125, u126, u127, u128, u129, u130, u131, u132, u133, u134, u135, u136, u137, u138, u139, u140, u141, u142, u143, u144, u145, u146, u147, u148, u149, u150, u151, u152, u153, u154, u155, u156, u157, u158, u159, u160, u161, u162, u163, u164, u165, u166, u167, u168, u169, u170, u171, u172, u173, u174, u175, u176, u177, u178, u179, u180, u181, u182, u183, u184, u185, u186, u187, u188, u189, u190, u191, u192, u193, u194, u195, u196, u197, u198, u199, u200, u201, u202, u203, u204, u205, u206, u207, u208, u209, u210, u211, u212, u213, u214, u215, u216, u217, u218, u219, u220, u221, u222, u223, u224, u225, u226, u227, u228, u229, u230, u231, u232, u233, u234, u235, u236, u237, u238, u239, u240, u241, u242, u243, u244, u245, u246, u247, u248, u249, u250, u251], []⟩ w := by
  subst hn
  obtain ⟨p9, p13, hlt⟩ := hb
  have c9 := blk_cell p9
  have c13 := blk_cell p13
  have z9 := lt_of_block p9
  have z13 := lt_of_block p13
  have hB0 : B0 ≤ w.heap.size := by omega
  have Hlt := Lib.hid hlt
  have Hm := Lib.hid hm
  have hml : m ≤ L.length := by have := pagesF_le_len k L; omega
  have hm64 : m ≤ 64 := by have := pagesF_le k L; omega
  obtain ⟨S, hS⟩ : ∃ S, S = str L := ⟨_, rfl⟩
  have hss : S.size = L.length := by rw [hS, str_size]
  have hbt : ∀ (i : Nat) (h : i < S.size), ((S[i]'h).toNat : Int) = bt L i := by rw [hS]; exact str_bt L
  have hmS : m ≤ S.size := by omega
  have Hbt := Lib.hid hbt
  have Hss := Lib.hid hss
  have hu : usedF k L n = false := by
    rcases hu : usedF k L n with _ | _
    · rfl
    · have hu' := (usedF_iff k L n).1 hu
      rw [Int.toNat_natCast] at hu'
      omega
  have d3 : decide ((0 : Int) ≤ (n : Int)) = true := by simp
  have d4 : decide ((n : Int) < (m : Int)) = true := by simpa using h2
  have d5 : decide (n < m) = true := by simpa using h2
  have hnS : n < S.size := by omega
  have hnS' : (n : Int) < (S.size : Int) := by omega
  have hn0 : (0 : Int) ≤ (n : Int) := by omega
  have hbn := hbt n hnS
  have d6 : (bt L n == 1) = false := by simpa using h3
  have d6' : decide (bt L n = 1) = false := by simpa using h3
  clear h2 h3
  obtain ⟨C, hC⟩ : ∃ C : Nat → Nat, C = fun j => (L.take j).count 2 := ⟨_, rfl⟩
  have hC0 : C 0 = 0 := by rw [hC]; simp
  have hC1 : Hid (∀ j, j < L.length → C (j + 1) = if bt L j = 2 then C j + 1 else C j) := Lib.hid fun j hj => by
    rw [hC]
    simp only
    rw [List.take_succ_eq_append_getElem hj, List.count_append]
    by_cases h : bt L j = 2
    · rw [if_pos h, (bt_eq L j hj 2).1 h]; rfl
    · rw [if_neg h]
      have h' : L[j] ≠ 2 := fun e => h ((bt_eq L j hj 2).2 e)
      simp [List.count_cons, h']
  have hCle : Hid (∀ j, C j ≤ j) := Lib.hid fun j => by
    rw [hC]
    exact Nat.le_trans List.count_le_length (by rw [List.length_take]; omega)
  have hcm : (L.take m).count 2 = C m := by rw [hC]
  have hrm := fun w => refMap_any k D X L w (by omega)
  have hfr := fun w => free_any k D X L w (by omega)
  have hpg := fun w => pages_any k D X L w (by omega)
  have hus := fun w => used_any k D X n L w (by omega)
  rw [hm] at hrm hpg hfr
  rw [hcm] at hfr
  rw [hu] at hus
  rw [← hS] at hrm hfr hpg hus
  clear hC hcm hu
  rw [← hS] at p9 c9
  have HS := Lib.hid hS
  clear hS hss hbt hm hlt hl
  conv => arg 2; whnf
  go_wp2_with fail
  with_reducible refine (hrm _).mono ?_
  rintro e w1 ⟨rfl, hb1⟩
  have q9 := blk_keep p9 hb1
  have q13 := blk_keep p13 hb1
  have qb := hb1.mono hB0
  clear c9 c13 z9 z13 p9 p13 hb1
  go_wp2_with fail
  go_loopw [23, 24] (fun u i wr => ∃ (j c : Nat), u = .int .i64 c ∧ i = .int .i64 j ∧ j ≤ m ∧ Hid (c = C j) ∧ wr.heap[pb]? = some (pgo k D X S) ∧ wr.heap[ob]? = some (opo kd n) ∧ Below B0 w wr) (fun _ i _ => m - (intOf i).toNat)
  case atStart => exact ⟨0, 0, rfl, rfl, Nat.zero_le _, Lib.hid hC0.symm, q9, q13, qb⟩
  case round =>
    clear q9 q13 qb
    obtain ⟨j, c, rfl, rfl, hj, hc, q9, q13, qb⟩ := hrel
    have e9 := blk_cell q9
    have y9 := lt_of_block q9
    have hcj : c ≤ j := by rw [hc.out]; exact hCle.out j
    by_cases hlt : j < m
    · have d1 : decide ((j : Int) < (m : Int)) = true := by simpa using hlt
      have d2 : decide (j < m) = true := by simpa using hlt
      have hjS : j < S.size := by omega
      have hjS' : (j : Int) < (S.size : Int) := by omega
      have hb := Hbt.out j hjS
      have hjl : j < L.length := by have := Hss.out; omega
      have i1 : IntKind.i64.wrap ((j : Int) + 1) = (j : Int) + 1 := IntWalk.i64_in _ (by omega)
      have i2 : IntKind.i64.wrap ((c : Int) + 1) = (c : Int) + 1 := IntWalk.i64_in _ (by omega)
      by_cases h2 : bt L j = 2
      · have c2 : (bt L j == 2) = true := by simpa using h2
        have c2' : decide (bt L j = 2) = true := by simpa using h2
        have hc' : Hid (c + 1 = C (j + 1)) := Lib.hid (by rw [hC1.out j hjl, if_pos h2, hc.out])
        clear h2
        go_wp2_with fail
        go_roundw
        case rel => exact ⟨j + 1, c + 1, by go_num, by go_num, by omega, hc', q9, q13, qb⟩
        case measure => clear i1 i2; simp [intOf]; omega
      · have c2 : (bt L j == 2) = false := by simpa using h2
        have c2' : decide (bt L j = 2) = false := by simpa using h2
        have hc' : Hid (c = C (j + 1)) := Lib.hid (by rw [hC1.out j hjl, if_neg h2, hc.out])
        clear h2
        go_wp2_with fail
        go_roundw
        case rel => exact ⟨j + 1, c, rfl, by go_num, by omega, hc', q9, q13, qb⟩
        case measure => clear i1 i2; simp [intOf]; omega
    · have d1 : decide ((j : Int) < (m : Int)) = false := by simpa using hlt
      have d2 : decide (j < m) = false := by simpa using hlt
      obtain rfl : j = m := by omega
      rw [← hc.out] at hfr
      have e13 := blk_cell q13
      have y13 := lt_of_block q13
      clear hlt hC0 hC1 hCle hc hcj
      go_wp2_with fail
      with_reducible refine (hfr _).mono ?_
      rintro e w2 ⟨rfl, hb2⟩
      have r9 := blk_keep q9 hb2
      have r13 := blk_keep q13 hb2
      have rb := below_base qb (by have := qb.size; omega) hb2
      have f9 := blk_cell r9
      have g9 := lt_of_block r9
      have f13 := blk_cell r13
      have g13 := lt_of_block r13
      clear e9 y9 e13 y13 q9 q13 qb hb2
      go_wp2_with fail
      with_reducible refine (hpg _).mono ?_
      rintro e w3 ⟨rfl, hb3⟩
      have s9 := blk_keep r9 hb3
      have s13 := blk_keep r13 hb3
      have sb := below_base rb (by have := rb.size; omega) hb3
      have e9 := blk_cell s9
      have y9 := lt_of_block s9
      have e13 := blk_cell s13
      have y13 := lt_of_block s13
      clear f9 g9 f13 g13 r9 r13 rb hb3
      go_wp2_with fail
      with_reducible refine (hus _).mono ?_
      rintro e w4 ⟨rfl, hb4⟩
      have t9 := blk_keep s9 hb4
      have t13 := blk_keep s13 hb4
      have tb := below_base sb (by have := sb.size; omega) hb4
      clear e9 y9 e13 y13 s9 s13 sb hb4
      go_wp2_with fail
      with_reducible refine hR.out _ _ _ _ _ _ _ _ _ _ _ _ _ _ _ _ _ _ _ _ _ _ _ _ _ _ _ _ _ _ _ _ _ _ _ _ _ _ _ _ _ _ _ _ _ _ _ _ _ _ _ _ _ _ L _ rfl ⟨by rw [← HS.out]; exact t9, t13, by have := Hlt.out; have := lt_of_block t13; omega⟩ tb
set_option maxRecDepth 1000000 in
set_option maxHeartbeats 8000000 in
theorem tail_all (w : World) (B0 pb ob : Nat) (k D X : Int) (L : List UInt8) (kd nn : Int) (m : Nat) (hm : pagesF k L = m) (hl : L.length ≤ 300) (hb : Rb w B0 pb ob k D X L kd nn) 
    (u0 u1 u2 u3 u4 u5 u6 u7 u8 u10 u11 u12 u14 u15 u16 u17 u18 u19 u20 u21 u22 u23 u24 u25 u26 u27 u28 u29 u30 u31 u32 u33 u34 u35 u36 u37 u38 u39 u40 u41 u42 u43 u44 u45 u46 u47 u48 u49 u50 u51 u52 u53 u54 u55 u56 u57 u58 u59 u60 u61 u62 u63 u64 u65 u66 u67 u68 u69 u70 u71 u72 u73 u74 u75 u76 u77 u78 u79 u80 u81 u82 u83 u84 u85 u86 u87 u88 u89 u90 u91 u92 u93 u94 u95 u96 u97 u98 u99 u100 u101 u102 u103 u104 u105 u106 u107 u108 u109 u110 u111 u112 u113 u114 u115 u116 u117 u118 u119 u120 u121 u122 u123 u124 u125 u126 u127 u128 u129 u130 u131 u132 u133 u134 u135 u136 u137 u138 u139 u140 u141 u142 u143 u144 u145 u146 u147 u148 u149 u150 u151 u152 u153 u154 u155 u156 u157 u158 u159 u160 u161 u162 u163 u164 u165 u166 u167 u168 u169 u170 u171 u172 u173 u174 u175 u176 u177 u178 u179 u180 u181 u182 u183 u184 u185 u186 u187 u188 u189 u190 u191 u192 u193 u194 u195 u196 u197 u198 u199 u200 u201 u202 u203 u204 u205 u206 u207 u208 u209 u210 u211 u212 u213 u214 u215 u216 u217 u218 u219 u220 u221 u222 u223 u224 u225 u226 u227 u228 u229 u230 u231 u232 u233 u234 u235 u236 u237 u238 u239 u240 u241 u242 u243 u244 u245 u246 u247 u248 u249 u250 u251 : Value) (R : Exit → Act → World → Prop) (hP : Hid (∀ c a d v w, R (.panic c) (Act.put a d v) w → R (.panic c) a w))
    (hR : Hid (∀ (v8 v14 v23 v24 v25 v202 v203 v204 v205 v206 v207 v208 v209 v210 v211 v212 v213 v214 v215 v216 v217 v218 v219 v220 v221 v222 v223 v224 v225 v226 v227 v228 v229 v230 v231 v232 v233 v234 v235 v236 v237 v238 v239 v240 v241 v242 v243 v244 v245 v246 v247 v248 v249 v250 : Value) (L' : List UInt8) (w' : World), L'.length = L.length → Rb w' B0 pb ob k D X L' kd nn → Below B0 w w' → R .normal ⟨#[u0, u1, u2, u3, u4, u5, u6, u7, v8, .pointer (some ⟨pb, 0, none⟩), u10, u11, u12, .pointer (some ⟨ob, 0, none⟩), v14, u15, u16, u17, u18, u19, u20, u21, u22, v23, v24, v25, u26, u27, u28, u29, u30, u31, u32, u33, u34, u35, u36, u37, u38, u39, u40, u41, u42, u43, u44, u45, u46, u47, u48, u49, u50, u51, u52, u53, u54, u55, u56, u57, u58, u59, u60, u61, u62, u63, u64, u65, u66, u67, u68, u69, u70, u71, u72, u73, u74, u75, u76, u77, u78, u79, u80, u81, u82, u83, u84, u85, u86, u87, u88, u89, u90, u91, u92, u93, u94, u95, u96, u97, u98, u99, u100, u101, u102, u103, u104, u105, u106, u107, u108, u109, u110, u111, u112, u113, u114, u115, u116, u117, u118, u119, u120, u121, u122, u123, u124, u125, u126, u127, u128, u129, u130, u131, u132, u133, u134, u135, u136, u137, u138, u139, u140, u141, u142, u143, u144, u145, u146, u147, u148, u149, u150, u151, u152, u153, u154, u155, u156, u157, u158, u159, u160, u161, u162, u163, u164, u165, u166, u167, u168, u169, u170, u171, u172, u173, u174, u175, u176, u177, u178, u179, u180, u181, u182, u183, u184, u185, u186, u187, u188, u189, u190, u191, u192, u193, u194, u195, u196, u197, u198, u199, u200, u201, v202, v203, v204, v205, v206, v207, v208, v209, v210, v211, v212, v213, v214, v215, v216, v217, v218, v219, v220, v221, v222, v223, v224, v225, v226, v227, v228, v229, v230, v231, v232, v233, v234, v235, v236, v237, v238, v239, v240, v241, v242, v243, v244, v245, v246, v247, v248, v249, v250, u251], []⟩ w')) :
    Code.wp Tryd.prog cTail R ⟨#[u0, u1, u2, u3, u4, u5, u6, u7, u8, .pointer (some ⟨pb, 0, none⟩), u10, u11, u12, .pointer (some ⟨ob, 0, none⟩), u14, u15, u16, u17, u18, u19, u20, u21, u22, u23, u24, u25, u26, u27, u28, u29, u30, u31, u32, u33, u34, u35, u36, u37, u38, u39, u40, u41, u42, u43, u44, u45, u46, u47, u48, u49, u50, u51, u52, u53, u54, u55, u56, u57, u58, u59, u60, u61, u62, u63, u64, u65, u66, u67, u68, u69, u70, u71, u72, u73, u74, u75, u76, u77, u78, u79, u80, u81, u82, u83, u84, u85, u86, u87, u88, u89, u90, u91, u92, u93, u94, u95, u96, u97, u98, u99, u100, u101, u102, u103, u104, u105, u106, u107, u108, u109, u110, u111, u112, u113, u114, u115, u116, u117, u118, u119, u120, u121, u122, u123, u124, u125, u126, u127, u128, u129, u130, u131, u132, u133, u134, u135, u136, u137, u138, u139, u140, u141, u142, u143, u144, u145, u146, u147, u148, u149, u150, u151, u152, u153, u154, u155, u156, u157, u158, u159, u160, u161, u162, u163, u164, u165, u166, u167, u168, u169, u170, u171, u172, u173, u174, u175, u176, u177, u178, u179, u180, u181, u182, u183, u184, u185, u186, u187, u188, u189, u190, u191, u192, u193, u194, u195, u196, u197, u198, u199, u200, u201, u202, u203, u204, u205, u206, u207, u208, u209, u210, u211, u212, u213, u214, u215, u216, u217, u218, u219, u220, u221, u222, u223, u224, u225, u226, u227, u228, u229, u230, u231, u232, u233, u234, u235, u236, u237, u238, u239, u240, u241, u242, u243, u244, u245, u246, u247, u248, u249, u250, u251], []⟩ w := by
  by_cases h1 : nn < 0
  · exact tail_lo w B0 pb ob k D X L kd nn m hm hl hb h1 u0 u1 u2 u3 u4 u5 u6 u7 u8 u10 u11 u12 u14 u15 u16 u17 u18 u19 u20 u21 u22 u23 u24 u25 u26 u27 u28 u29 u30 u31 u32 u33 u34 u35 u36 u37 u38 u39 u40 u41 u42 u43 u44 u45 u46 u47 u48 u49 u50 u51 u52 u53 u54 u55 u56 u57 u58 u59 u60 u61 u62 u63 u64 u65 u66 u67 u68 u69 u70 u71 u72 u73 u74 u75 u76 u77 u78 u79 u80 u81 u82 u83 u84 u85 u86 u87 u88 u89 u90 u91 u92 u93 u94 u95 u96 u97 u98 u99 u100 u101 u102 u103 u104 u105 u106 u107 u108 u109 u110 u111 u112 u113 u114 u115 u116 u117 u118 u119 u120 u121 u122 u123 u124 u125 u126 u127 u128 u129 u130 u131 u132 u133 u134 u135 u136 u137 u138 u139 u140 u141 u142 u143 u144 u145 u146 u147 u148 u149 u150 u151 u152 u153 u154 u155 u156 u157 u158 u159 u160 u161 u162 u163 u164 u165 u166 u167 u168 u169 u170 u171 u172 u173 u174 u175 u176 u177 u178 u179 u180 u181 u182 u183 u184 u185 u186 u187 u188 u189 u190 u191 u192 u193 u194 u195 u196 u197 u198 u199 u200 u201 u202 u203 u204 u205 u206 u207 u208 u209 u210 u211 u212 u213 u214 u215 u216 u217 u218 u219 u220 u221 u222 u223 u224 u225 u226 u227 u228 u229 u230 u231 u232 u233 u234 u235 u236 u237 u238 u239 u240 u241 u242 u243 u244 u245 u246 u247 u248 u249 u250 u251 R hP hR
  · by_cases h2 : (m : Int) ≤ nn
    · exact tail_hi w B0 pb ob k D X L kd nn m hm hl hb h1 h2 u0 u1 u2 u3 u4 u5 u6 u7 u8 u10 u11 u12 u14 u15 u16 u17 u18 u19 u20 u21 u22 u23 u24 u25 u26 u27 u28 u29 u30 u31 u32 u33 u34 u35 u36 u37 u38 u39 u40 u41 u42 u43 u44 u45 u46 u47 u48 u49 u50 u51 u52 u53 u54 u55 u56 u57 u58 u59 u60 u61 u62 u63 u64 u65 u66 u67 u68 u69 u70 u71 u72 u73 u74 u75 u76 u77 u78 u79 u80 u81 u82 u83 u84 u85 u86 u87 u88 u89 u90 u91 u92 u93 u94 u95 u96 u97 u98 u99 u100 u101 u102 u103 u104 u105 u106 u107 u108 u109 u110 u111 u112 u113 u114 u115 u116 u117 u118 u119 u120 u121 u122 u123 u124 u125 u126 u127 u128 u129 u130 u131 u132 u133 u134 u135 u136 u137 u138 u139 u140 u141 u142 u143 u144 u145 u146 u147 u148 u149 u150 u151 u152 u153 u154 u155 u156 u157 u158 u159 u160 u161 u162 u163 u164 u165 u166 u167 u168 u169 u170 u171 u172 u173 u174 u175 u176 u177 u178 u179 u180 u181 u182 u183 u184 u185 u186 u187 u188 u189 u190 u191 u192 u193 u194 u195 u196 u197 u198 u199 u200 u201 u202 u203 u204 u205 u206 u207 u208 u209 u210 u211 u212 u213 u214 u215 u216 u217 u218 u219 u220 u221 u222 u223 u224 u225 u226 u227 u228 u229 u230 u231 u232 u233 u234 u235 u236 u237 u238 u239 u240 u241 u242 u243 u244 u245 u246 u247 u248 u249 u250 u251 R hP hR
    · obtain ⟨n, hn⟩ := Int.eq_ofNat_of_zero_le (show 0 ≤ nn by omega)
      by_cases h3 : bt L n = 1
      · exact tail_one w B0 pb ob k D X L kd nn m hm hl hb n hn (by omega) h3 u0 u1 u2 u3 u4 u5 u6 u7 u8 u10 u11 u12 u14 u15 u16 u17 u18 u19 u20 u21 u22 u23 u24 u25 u26 u27 u28 u29 u30 u31 u32 u33 u34 u35 u36 u37 u38 u39 u40 u41 u42 u43 u44 u45 u46 u47 u48 u49 u50 u51 u52 u53 u54 u55 u56 u57 u58 u59 u60 u61 u62 u63 u64 u65 u66 u67 u68 u69 u70 u71 u72 u73 u74 u75 u76 u77 u78 u79 u80 u81 u82 u83 u84 u85 u86 u87 u88 u89 u90 u91 u92 u93 u94 u95 u96 u97 u98 u99 u100 u101 u102 u103 u104 u105 u106 u107 u108 u109 u110 u111 u112 u113 u114 u115 u116 u117 u118 u119 u120 u121 u122 u123 u124 u125 u126 u127 u128 u129 u130 u131 u132 u133 u134 u135 u136 u137 u138 u139 u140 u141 u142 u143 u144 u145 u146 u147 u148 u149 u150 u151 u152 u153 u154 u155 u156 u157 u158 u159 u160 u161 u162 u163 u164 u165 u166 u167 u168 u169 u170 u171 u172 u173 u174 u175 u176 u177 u178 u179 u180 u181 u182 u183 u184 u185 u186 u187 u188 u189 u190 u191 u192 u193 u194 u195 u196 u197 u198 u199 u200 u201 u202 u203 u204 u205 u206 u207 u208 u209 u210 u211 u212 u213 u214 u215 u216 u217 u218 u219 u220 u221 u222 u223 u224 u225 u226 u227 u228 u229 u230 u231 u232 u233 u234 u235 u236 u237 u238 u239 u240 u241 u242 u243 u244 u245 u246 u247 u248 u249 u250 u251 R hP hR
      · exact tail_not w B0 pb ob k D X L kd nn m hm hl hb n hn (by omega) h3 u0 u1 u2 u3 u4 u5 u6 u7 u8 u10 u11 u12 u14 u15 u16 u17 u18 u19 u20 u21 u22 u23 u24 u25 u26 u27 u28 u29 u30 u31 u32 u33 u34 u35 u36 u37 u38 u39 u40 u41 u42 u43 u44 u45 u46 u47 u48 u49 u50 u51 u52 u53 u54 u55 u56 u57 u58 u59 u60 u61 u62 u63 u64 u65 u66 u67 u68 u69 u70 u71 u72 u73 u74 u75 u76 u77 u78 u79 u80 u81 u82 u83 u84 u85 u86 u87 u88 u89 u90 u91 u92 u93 u94 u95 u96 u97 u98 u99 u100 u101 u102 u103 u104 u105 u106 u107 u108 u109 u110 u111 u112 u113 u114 u115 u116 u117 u118 u119 u120 u121 u122 u123 u124 u125 u126 u127 u128 u129 u130 u131 u132 u133 u134 u135 u136 u137 u138 u139 u140 u141 u142 u143 u144 u145 u146 u147 u148 u149 u150 u151 u152 u153 u154 u155 u156 u157 u158 u159 u160 u161 u162 u163 u164 u165 u166 u167 u168 u169 u170 u171 u172 u173 u174 u175 u176 u177 u178 u179 u180 u181 u182 u183 u184 u185 u186 u187 u188 u189 u190 u191 u192 u193 u194 u195 u196 u197 u198 u199 u200 u201 u202 u203 u204 u205 u206 u207 u208 u209 u210 u211 u212 u213 u214 u215 u216 u217 u218 u219 u220 u221 u222 u223 u224 u225 u226 u227 u228 u229 u230 u231 u232 u233 u234 u235 u236 u237 u238 u239 u240 u241 u242 u243 u244 u245 u246 u247 u248 u249 u250 u251 R hP hR
end Go.Proofs.YtgafmbdledpblaaDoor.Sp
