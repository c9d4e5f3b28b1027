/- DirPlays: Halve, of two halves that are not. (Printed by tools/gen_dp.py.) -/
import Derived.Test.YtlinolgbpnokcaaGreatDoorDirPlays0
import Derived.Deep.Cut
import Derived.Deep.CutRange
import Derived.Deep.CutBlock
import Derived.Deep.DeepCutAuto
import Derived.RegionTactic
import Derived.Deep.RegionLaw
import Derived.Deep.RegionLawGrows
import Derived.Deep.RegionHeld
namespace Go.Proofs.YtlinolgbpnokcaaGreatDoor.Dr
open Go.RowKit Go.Proofs.YtlinolgbpnokcaaGreatDoor.Mem Go.Proofs.YtlinolgbpnokcaaGreatDoor.Pg Go.Proofs.YtlinolgbpnokcaaGreatDoor.Bk
set_option linter.unusedSimpArgs false
set_option linter.unusedVariables false
set_option maxRecDepth 1000000 in
set_option maxHeartbeats 8000000 in
theorem hlv_ne (w : World) (B0 pb ob qb wb : Nat) (kk D X : Int) (L : List UInt8) (kd bt dp nn : Int) (good : Bool) (xs : List Int) (hv f0 : Value) (hs : Seen kk D X L good xs) (hf0 : f0 = .int .i64 (if good = true then 0 else 2)) (hb : Rb w B0 pb ob qb wb kk D X L kd bt dp nn) (hh : Have w hv good xs) (hne : ∀ b off n c, hv = .slice (some ⟨b, off, none⟩) n c → b ≠ qb) (hg : good = true) (h5 : ¬ D = 0) (hev0 : ¬ xs.take (xs.length / 2) = xs.drop (xs.length / 2))
    (u0 u1 u2 u3 u4 u5 u6 u7 u8 u10 u11 u12 u13 u21 u22 u23 u24 u25 u26 u27 u28 u29 u30 u31 u32 u33 u34 u35 u36 u37 u38 u39 u40 u41 u42 u43 u44 u45 u46 u47 u48 u49 u50 u51 u52 u53 u54 u55 u56 u57 u58 u59 u60 u61 u62 u63 u64 u65 u66 u67 u68 u69 u70 u71 u72 u73 u74 u75 u76 u77 u78 u79 u80 u81 u82 u83 u84 u85 u86 u87 u88 u89 u90 u91 u92 u93 u94 u95 u96 u97 u98 u99 u100 u102 u103 u104 u105 u106 u107 u108 u109 u110 u111 u112 u113 u114 u115 u116 u117 u118 u119 u120 u121 u122 u123 u124 u125 u126 u127 u128 u129 u130 u131 u132 u133 u134 u135 u136 u137 u138 u139 u140 u141 u142 u143 u144 u145 u146 u147 u148 u149 u150 u151 u152 u153 u154 u155 u156 u157 u158 u159 u160 u161 u162 u163 u164 u165 u166 u167 u168 u169 u170 u171 u172 u173 u174 u175 u176 u177 u178 u179 u180 u181 u182 u183 u184 u185 u186 u187 u188 u189 u190 u191 u192 u193 u194 u195 u196 u197 u198 u199 u200 u201 u202 u203 u204 u205 u206 u207 u208 u209 u210 u211 u212 u213 u214 u215 u216 u217 u218 u219 u220 u221 u222 u223 u224 u225 u226 u227 u228 u229 u230 u231 u232 u233 u234 u235 u236 u237 u238 u239 u240 u241 u242 u243 u244 u245 u246 u247 u248 u249 u250 u251 u252 u253 u254 u255 u256 u257 u258 u259 u260 u261 u262 u263 u264 u265 u266 u267 u268 u269 u270 u271 u272 u273 u274 u275 u276 u277 u278 u279 u280 u281 u282 u283 u284 u285 u286 u287 u288 u289 u290 u291 u292 u293 u294 u295 u296 u297 u298 u299 u300 u301 u302 u303 u304 u305 u306 u307 u308 u309 u310 u311 u312 u313 u314 u315 u316 u317 u318 u319 u320 : Value) (R : Exit → Act → World → Prop) (hP : Hid (∀ c a d v w, R (.panic c) (Act.put a d v) w → R (.panic c) a w))
    (hR : Hid (∀ (v21 v206 v207 v208 v209 v210 v211 v212 v213 v214 v215 v216 v217 v218 v219 v220 v221 v222 v223 v224 v225 v226 v227 v228 v229 v230 v231 v232 v233 v234 v235 v236 v237 v238 v239 : Value) (E k' D' X' : Int) (L' : List UInt8) (w' : World), Dn w w' B0 ob qb wb kd bt dp nn k' D' X' L' → R .normal ⟨#[u0, u1, u2, u3, u4, u5, u6, u7, u8, .pointer (some ⟨pb, 0, none⟩), u10, u11, u12, u13, .pointer (some ⟨ob, 0, none⟩), hv, .bool good, .pointer (some ⟨qb, 0, none⟩), .pointer (some ⟨wb, 0, none⟩), .int .i64 E, .int .i64 E, v21, u22, u23, u24, u25, u26, u27, u28, u29, u30, u31, u32, u33, u34, u35, u36, u37, u38, u39, u40, u41, u42, u43, u44, u45, u46, u47, u48, u49, u50, u51, u52, u53, u54, u55, u56, u57, u58, u59, u60, u61, u62, u63, u64, u65, u66, u67, u68, u69, u70, u71, u72, u73, u74, u75, u76, u77, u78, u79, u80, u81, u82, u83, u84, u85, u86, u87, u88, u89, u90, u91, u92, u93, u94, u95, u96, u97, u98, u99, u100, .int .i64 kd, u102, u103, u104, u105, u106, u107, u108, u109, u110, u111, u112, u113, u114, u115, u116, u117, u118, u119, u120, u121, u122, u123, u124, u125, u126, u127, u128, u129, u130, u131, u132, u133, u134, u135, u136, u137, u138, u139, u140, u141, u142, u143, u144, u145, u146, u147, u148, u149, u150, u151, u152, u153, u154, u155, u156, u157, u158, u159, u160, u161, u162, u163, u164, u165, u166, u167, u168, u169, u170, u171, u172, u173, u174, u175, u176, u177, u178, u179, u180, u181, u182, u183, u184, u185, u186, u187, u188, u189, u190, u191, u192, u193, u194, u195, u196, u197, u198, u199, u200, u201, u202, u203, u204, u205, v206, v207, v208, v209, v210, v211, v212, v213, v214, v215, v216, v217, v218, v219, v220, v221, v222, v223, v224, v225, v226, v227, v228, v229, v230, v231, v232, v233, v234, v235, v236, v237, v238, v239, u240, u241, u242, u243, u244, u245, u246, u247, u248, u249, u250, u251, u252, u253, u254, u255, u256, u257, u258, u259, u260, u261, u262, u263, u264, u265, u266, u267, u268, u269, u270, u271, u272, u273, u274, u275, u276, u277, u278, u279, u280, u281, u282, u283, u284, u285, u286, u287, u288, u289, u290, u291, u292, u293, u294, u295, u296, u297, u298, u299, u300, u301, u302, u303, u304, u305, u306, u307, u308, u309, u310, u311, u312, u313, u314, u315, u316, u317, u318, u319, u320], []⟩ w')) :
    Code.wp Tryz.prog cHlv R ⟨#[u0, u1, u2, u3, u4, u5, u6, u7, u8, .pointer (some ⟨pb, 0, none⟩), u10, u11, u12, u13, .pointer (some ⟨ob, 0, none⟩), hv, .bool good, .pointer (some ⟨qb, 0, none⟩), .pointer (some ⟨wb, 0, none⟩), .int .i64 0, f0, u21, u22, u23, u24, u25, u26, u27, u28, u29, u30, u31, u32, u33, u34, u35, u36, u37, u38, u39, u40, u41, u42, u43, u44, u45, u46, u47, u48, u49, u50, u51, u52, u53, u54, u55, u56, u57, u58, u59, u60, u61, u62, u63, u64, u65, u66, u67, u68, u69, u70, u71, u72, u73, u74, u75, u76, u77, u78, u79, u80, u81, u82, u83, u84, u85, u86, u87, u88, u89, u90, u91, u92, u93, u94, u95, u96, u97, u98, u99, u100, .int .i64 kd, u102, u103, u104, u105, u106, u107, u108, u109, u110, u111, u112, u113, u114, u115, u116, u117, u118, u119, u120, u121, u122, u123, u124, u125, u126, u127, u128, u129, u130, u131, u132, u133, u134, u135, u136, u137, u138, u139, u140, u141, u142, u143, u144, u145, u146, u147, u148, u149, u150, u151, u152, u153, u154, u155, u156, u157, u158, u159, u160, u161, u162, u163, u164, u165, u166, u167, u168, u169, u170, u171, u172, u173, u174, u175, u176, u177, u178, u179, u180, u181, u182, u183, u184, u185, u186, u187, u188, u189, u190, u191, u192, u193, u194, u195, u196, u197, u198, u199, u200, u201, u202, u203, u204, u205, u206, u207, u208, u209, u210, u211, u212, u213, u214, u215, u216, u217, u218, u219, u220, u221, u222, u223, u224, u225, u226, u227, u228, u229, u230, u231, u232, u233, u234, u235, u236, u237, u238, u239, u240, u241, u242, u243, u244, u245, u246, u247, u248, u249, u250, u251, u252, u253, u254, u255, u256, u257, u258, u259, u260, u261, u262, u263, u264, u265, u266, u267, u268, u269, u270, u271, u272, u273, u274, u275, u276, u277, u278, u279, u280, u281, u282, u283, u284, u285, u286, u287, u288, u289, u290, u291, u292, u293, u294, u295, u296, u297, u298, u299, u300, u301, u302, u303, u304, u305, u306, u307, u308, u309, u310, u311, u312, u313, u314, u315, u316, u317, u318, u319, u320], []⟩ w := by

  obtain ⟨p9, p14, p17, p18, hlt⟩ := hb
  have c9 := blk_cell p9
  have c14 := blk_cell p14
  have z9 := lt_of_block p9
  have z14 := lt_of_block p14
  have hB0 : B0 ≤ w.heap.size := by omega
  have hdb := Lib.hid (halve_any kk D X L)
  have Hlt := Lib.hid hlt
  subst hg
  obtain ⟨hd, hxs⟩ := hs.dir rfl
  simp only [if_true] at hf0
  subst hf0
  have Hno := Lib.hid hd
  have Hxs := Lib.hid hxs
  have hx32 := hs.len
  have hle := hd.le
  have hlo := hd.lo
  have hhi := hd.hi
  obtain ⟨A, c, rfl, hcap, hin, _⟩ := hh
  obtain ⟨b, off, rfl, hbl, _⟩ := hin.2.2 (by omega)
  have hbq : b ≠ qb := hne _ _ _ _ rfl
  obtain ⟨i0, hif, hz0, hz1, hz2⟩ := info_parts info_int
  have Hin := Lib.hid hin
  clear hs hd hxs hlt hin
  conv => arg 2; whnf
  obtain ⟨h, hh⟩ : ∃ h, h = xs.length / 2 := ⟨_, rfl⟩
  have q1 : (xs.length : Int).tdiv 2 = (h : Int) := by rw [Int.tdiv_eq_ediv_of_nonneg (by omega)]; omega
  have q2 : (xs.length : Int) / 2 = (h : Int) := by omega
  have hh1 : h ≤ xs.length := by omega
  have hh2 : (h : Int) ≤ (xs.length : Int) := by omega
  have hh3 : h ≤ c := by omega
  have hh4 : (h : Int) ≤ (c : Int) := by omega
  have Hh := Lib.hid hh
  clear hh
  rw [← Hh.out] at hev0
  have hev := hev0
  have d5 : (D == 0) = false := by simpa using h5
  have d5' : decide (D = 0) = false := by simpa using h5
  have H5 := Lib.hid h5
  have h2 : 2 ≤ xs.length := by
    have h1 := Hno.out.size
    obtain ⟨m, rfl⟩ := Int.eq_ofNat_of_zero_le hlo
    have hm : 1 ≤ m := by omega
    rw [h1, Int.toNat_natCast]
    calc 2 = 2 ^ 1 := rfl
      _ ≤ 2 ^ m := Nat.pow_le_pow_right (by omega) hm
  have hh5 : h < xs.length := by have := Hh.out; omega
  have hh6 : ¬ c = h := by omega
  have hh7 : ¬ c ≤ h := by omega
  have hh8 : xs.length - h = h := by have := isDir_two Hno.out (by omega); have := Hh.out; omega
  clear h5
  have Hev := Lib.hid hev
  clear hev0
  clear hev
  go_wp2_with fail
  with_reducible refine (hdb.out _).mono ?_
  rintro e w1 ⟨⟨hno, _⟩ | ⟨n, hd, _, rfl⟩ | ⟨n, hd, hev, _⟩, hb1⟩
  · exact absurd Hno.out (hno _)
  · have hd1 := Lib.hid hd
    clear hd
    have x9 := blk_keep p9 hb1
    have x14 := blk_keep p14 hb1
    have x17 := blk_keep p17 hb1
    have x18 := blk_keep p18 hb1
    have y9 := blk_cell x9
    have y17 := blk_cell x17
    have y17f := blk_free x17
    have w9 := lt_of_block x9
    have w17 := lt_of_block x17
    have hpq : pb ≠ qb := by have := Hlt.out; omega
    clear c9 c14 z9 z14
    have Hin1 := Lib.hid (Ints.set4' (Hin.out.below hb1) hbq (a1 := .int .i64 0) (a2 := .int .i64 0) (a3 := .int .i64 0) (a4 := .string ⟨#[]⟩))
    go_wp2_with fail
    obtain ⟨w2, hw2⟩ : ∃ w2, w2 = set4 w1 qb (.int .i64 0) (.int .i64 0) (.int .i64 0) (.string ⟨#[]⟩) := ⟨_, rfl⟩
    refine wp_world hw2 ?_
    rw [← hw2] at Hin1
    have v9 : w2.heap[pb]? = some (pgo kk D X (str L)) := by rw [hw2]; exact hs4 x9 hpq
    have v14 : w2.heap[ob]? = some (opo kd bt dp nn) := by rw [hw2]; exact hs4 x14 (by have := Hlt.out; omega)
    have v17 : w2.heap[qb]? = some (pgo 0 0 0 (str [])) := by rw [hw2]; exact set4_same x17 _ _ _ _
    have v18 : w2.heap[wb]? = some (pgo 0 0 0 (str [])) := by rw [hw2]; exact hs4 x18 (by have := Hlt.out; omega)
    have vb : Hid (Below B0 w w2) := Lib.hid (by rw [hw2]; exact below_set4 (hb1.mono hB0) (by have := Hlt.out; omega) _ _ _ _)
    have Hin2 := Lib.hid (Hin1.out.below (below_dr (Below.refl _ w2)))
    clear x9 x14 x17 x18 y9 y17 y17f w9 w17 Hin1 hw2 p9 p14 p17 p18 hb1
    refine wp_region_held_drew (S := (fun W' => W'.heap[pb]? = some (pgo kk D X (str L)))) (by kernel_rfl) (v9) (fun hHeld => ?_)
    refine wpAnyH_take (i := 0) (v := ?_) rfl (by kernel_rfl) (by kernel_rfl) (by kernel_rfl) (fun _ _ _ h => hP.out _ _ _ _ _ h) (Or.inl ⟨by kernel_rfl, ?_⟩) hHeld ?_
    rotate_left
    · intro wq hSw
      have hSc := blk_cell hSw
      go_simp
      try rw [if_neg (by omega)]
      try rw [if_pos (by omega)]
      try with_reducible rfl
    try simp only [Act.put, List.getElem_toArray, List.getElem_cons_succ, List.getElem_cons_zero, List.setIfInBounds_toArray, List.set_cons_zero, List.set_cons_succ]
    refine wpAnyH_take (i := 1) (v := ?_) rfl (by kernel_rfl) (by kernel_rfl) (by kernel_rfl) (fun _ _ _ h => hP.out _ _ _ _ _ h) (Or.inl ⟨by kernel_rfl, ?_⟩) hHeld ?_
    rotate_left
    · intro wq hSw
      have hSc := blk_cell hSw
      go_simp
      try rw [if_neg (by omega)]
      try rw [if_pos (by omega)]
      try with_reducible rfl
    try simp only [Act.put, List.getElem_toArray, List.getElem_cons_succ, List.getElem_cons_zero, List.setIfInBounds_toArray, List.set_cons_zero, List.set_cons_succ]
    refine wpAnyH_take (i := 2) (v := ?_) rfl (by kernel_rfl) (by kernel_rfl) (by kernel_rfl) (fun _ _ _ h => hP.out _ _ _ _ _ h) (Or.inl ⟨by kernel_rfl, ?_⟩) hHeld ?_
    rotate_left
    · intro wq hSw
      have hSc := blk_cell hSw
      go_simp
      try rw [if_neg (by omega)]
      try rw [if_pos (by omega)]
      try with_reducible rfl
    try simp only [Act.put, List.getElem_toArray, List.getElem_cons_succ, List.getElem_cons_zero, List.setIfInBounds_toArray, List.set_cons_zero, List.set_cons_succ]
    refine wpAnyH_take (i := 3) (v := ?_) rfl (by kernel_rfl) (by kernel_rfl) (by kernel_rfl) (fun _ _ _ h => hP.out _ _ _ _ _ h) (Or.inl ⟨by kernel_rfl, ?_⟩) hHeld ?_
    rotate_left
    · intro wq hSw
      have hSc := blk_cell hSw
      go_simp
      try rw [if_neg (by omega)]
      try rw [if_pos (by omega)]
      try with_reducible rfl
    try simp only [Act.put, List.getElem_toArray, List.getElem_cons_succ, List.getElem_cons_zero, List.setIfInBounds_toArray, List.set_cons_zero, List.set_cons_succ]
    refine wpAnyH_take (i := 4) (v := ?_) rfl (by kernel_rfl) (by kernel_rfl) (by kernel_rfl) (fun _ _ _ h => hP.out _ _ _ _ _ h) (Or.inl ⟨by kernel_rfl, ?_⟩) hHeld ?_
    rotate_left
    · intro wq hSw
      have hSc := blk_cell hSw
      go_simp
      try rw [if_neg (by omega)]
      try rw [if_pos (by omega)]
      try with_reducible rfl
    try simp only [Act.put, List.getElem_toArray, List.getElem_cons_succ, List.getElem_cons_zero, List.setIfInBounds_toArray, List.set_cons_zero, List.set_cons_succ]
    refine wpAnyH_take (i := 5) (v := ?_) rfl (by kernel_rfl) (by kernel_rfl) (by kernel_rfl) (fun _ _ _ h => hP.out _ _ _ _ _ h) (Or.inl ⟨by kernel_rfl, ?_⟩) hHeld ?_
    rotate_left
    · intro wq hSw
      have hSc := blk_cell hSw
      go_simp
      try rw [if_neg (by omega)]
      try rw [if_pos (by omega)]
      try with_reducible rfl
    try simp only [Act.put, List.getElem_toArray, List.getElem_cons_succ, List.getElem_cons_zero, List.setIfInBounds_toArray, List.set_cons_zero, List.set_cons_succ]
    refine wpAnyH_take (i := 6) (v := ?_) rfl (by kernel_rfl) (by kernel_rfl) (by kernel_rfl) (fun _ _ _ h => hP.out _ _ _ _ _ h) (Or.inl ⟨by kernel_rfl, ?_⟩) hHeld ?_
    rotate_left
    · intro wq hSw
      have hSc := blk_cell hSw
      go_simp
      try rw [if_neg (by omega)]
      try rw [if_pos (by omega)]
      try with_reducible rfl
    try simp only [Act.put, List.getElem_toArray, List.getElem_cons_succ, List.getElem_cons_zero, List.setIfInBounds_toArray, List.set_cons_zero, List.set_cons_succ]
    refine wpAnyH_take (i := 7) (v := ?_) rfl (by kernel_rfl) (by kernel_rfl) (by kernel_rfl) (fun _ _ _ h => hP.out _ _ _ _ _ h) (Or.inl ⟨by kernel_rfl, ?_⟩) hHeld ?_
    rotate_left
    · intro wq hSw
      have hSc := blk_cell hSw
      go_simp
      try rw [if_neg (by omega)]
      try rw [if_pos (by omega)]
      try with_reducible rfl
    try simp only [Act.put, List.getElem_toArray, List.getElem_cons_succ, List.getElem_cons_zero, List.setIfInBounds_toArray, List.set_cons_zero, List.set_cons_succ]
    refine wpAnyH_take (i := 8) (v := ?_) rfl (by kernel_rfl) (by kernel_rfl) (by kernel_rfl) (fun _ _ _ h => hP.out _ _ _ _ _ h) (Or.inl ⟨by kernel_rfl, ?_⟩) hHeld ?_
    rotate_left
    · intro wq hSw
      have hSc := blk_cell hSw
      go_simp
      try rw [if_neg (by omega)]
      try rw [if_pos (by omega)]
      try with_reducible rfl
    try simp only [Act.put, List.getElem_toArray, List.getElem_cons_succ, List.getElem_cons_zero, List.setIfInBounds_toArray, List.set_cons_zero, List.set_cons_succ]
    refine wpAnyH_take (i := 9) (v := ?_) rfl (by kernel_rfl) (by kernel_rfl) (by kernel_rfl) (fun _ _ _ h => hP.out _ _ _ _ _ h) (Or.inl ⟨by kernel_rfl, ?_⟩) hHeld ?_
    rotate_left
    · intro wq hSw
      have hSc := blk_cell hSw
      go_simp
      try rw [if_neg (by omega)]
      try rw [if_pos (by omega)]
      try with_reducible rfl
    try simp only [Act.put, List.getElem_toArray, List.getElem_cons_succ, List.getElem_cons_zero, List.setIfInBounds_toArray, List.set_cons_zero, List.set_cons_succ]
    refine wpAnyH_take (i := 10) (v := ?_) rfl (by kernel_rfl) (by kernel_rfl) (by kernel_rfl) (fun _ _ _ h => hP.out _ _ _ _ _ h) (Or.inl ⟨by kernel_rfl, ?_⟩) hHeld ?_
    rotate_left
    · intro wq hSw
      have hSc := blk_cell hSw
      go_simp
      try rw [if_neg (by omega)]
      try rw [if_pos (by omega)]
      try with_reducible rfl
    try simp only [Act.put, List.getElem_toArray, List.getElem_cons_succ, List.getElem_cons_zero, List.setIfInBounds_toArray, List.set_cons_zero, List.set_cons_succ]
    refine wpAnyH_take (i := 11) (v := ?_) rfl (by kernel_rfl) (by kernel_rfl) (by kernel_rfl) (fun _ _ _ h => hP.out _ _ _ _ _ h) (Or.inl ⟨by kernel_rfl, ?_⟩) hHeld ?_
    rotate_left
    · intro wq hSw
      have hSc := blk_cell hSw
      go_simp
      try rw [if_neg (by omega)]
      try rw [if_pos (by omega)]
      try with_reducible rfl
    try simp only [Act.put, List.getElem_toArray, List.getElem_cons_succ, List.getElem_cons_zero, List.setIfInBounds_toArray, List.set_cons_zero, List.set_cons_succ]
    refine wpAnyH_ready (rs := [12]) (by kernel_rfl) (by simp) ?_
    refine AllReadyH.cons rfl (fun K hK => ?_) AllReadyH.nil
    rw [if_pos (by kernel_rfl)]
    go_simp
    have ib := Ints.drop Hin2.out hh5
    rw [hh8] at ib
    with_reducible refine (sameInts_any _ _ _ _ _ _ _ _ _ (Ints.take Hin2.out hh1) ib).mono ?_
    rintro e w3 ⟨rfl, hb3⟩
    rw [decide_eq_false Hev.out]
    go_simp
    refine hK.out _ _ (blk_keep hHeld hb3) (fun hHeld2 => ?_)
    clear hK K
    try clear hHeld
    have hHeld := hHeld2
    try clear hHeld2
    refine wpAnyH_take (i := 13) (v := ?_) rfl (by kernel_rfl) (by kernel_rfl) (by kernel_rfl) (fun _ _ _ h => hP.out _ _ _ _ _ h) (Or.inl ⟨by kernel_rfl, ?_⟩) hHeld ?_
    rotate_left
    · intro wq hSw
      have hSc := blk_cell hSw
      go_simp
      try rw [if_neg (by omega)]
      try rw [if_pos (by omega)]
      try with_reducible rfl
    try simp only [Act.put, List.getElem_toArray, List.getElem_cons_succ, List.getElem_cons_zero, List.setIfInBounds_toArray, List.set_cons_zero, List.set_cons_succ]
    refine wpAnyH_take (i := 14) (v := ?_) rfl (by kernel_rfl) (by kernel_rfl) (by kernel_rfl) (fun _ _ _ h => hP.out _ _ _ _ _ h) (Or.inl ⟨by kernel_rfl, ?_⟩) hHeld ?_
    rotate_left
    · intro wq hSw
      have hSc := blk_cell hSw
      go_simp
      try rw [if_neg (by omega)]
      try rw [if_pos (by omega)]
      try with_reducible rfl
    try simp only [Act.put, List.getElem_toArray, List.getElem_cons_succ, List.getElem_cons_zero, List.setIfInBounds_toArray, List.set_cons_zero, List.set_cons_succ]
    refine wpAnyH_take (i := 15) (v := ?_) rfl (by kernel_rfl) (by kernel_rfl) (by kernel_rfl) (fun _ _ _ h => hP.out _ _ _ _ _ h) (Or.inl ⟨by kernel_rfl, ?_⟩) hHeld ?_
    rotate_left
    · intro wq hSw
      have hSc := blk_cell hSw
      go_simp
      try rw [if_neg (by omega)]
      try rw [if_pos (by omega)]
      try with_reducible rfl
    try simp only [Act.put, List.getElem_toArray, List.getElem_cons_succ, List.getElem_cons_zero, List.setIfInBounds_toArray, List.set_cons_zero, List.set_cons_succ]
    refine wpAnyH_done (by kernel_rfl) ?_ _
    have u14 := blk_keep (w := w2.drew) v14 hb3
    have u17 := blk_keep (w := w2.drew) v17 hb3
    have u18 := blk_keep (w := w2.drew) v18 hb3
    have vb3 : Hid (Below B0 w w3) := Lib.hid ((below_dr vb.out).trans (hb3.mono (by have := vb.out.size; simp at this ⊢; omega)))
    clear hHeld v9 v14 v17 v18 Hin2 hb3
    go_wp2_with fail
    with_reducible refine hR.out _ _ _ _ _ _ _ _ _ _ _ _ _ _ _ _ _ _ _ _ _ _ _ _ _ _ _ _ _ _ _ _ _ _ _ 11 0 0 0 [] _ ⟨?_, ?_, ?_, ?_⟩
    · exact u14
    · exact u17
    · exact u18
    · exact vb3.out
  · exfalso
    obtain rfl : n = xs.length := isDir_same hd Hno.out
    have h1 := hev.2
    rw [← Hxs.out, ← Hh.out] at h1
    exact Hev.out h1
end Go.Proofs.YtlinolgbpnokcaaGreatDoor.Dr
