/- DirPlays: Set, what may be set. (Printed by tools/gen_dp.py.) -/
import Derived.Test.YtlinolgbpnokcaaGreatDoorDirPlays0
import Derived.Deep.Cut
import Derived.Deep.CutRange
import Derived.Deep.CutBlock
import Derived.Deep.DeepCutAuto
import Derived.RegionTactic
import Derived.Deep.RegionLaw
import Derived.Deep.RegionLawGrows
import Derived.Deep.RegionHeld
namespace Go.Proofs.YtlinolgbpnokcaaGreatDoor.Dr
open Go.RowKit Go.Proofs.YtlinolgbpnokcaaGreatDoor.Mem Go.Proofs.YtlinolgbpnokcaaGreatDoor.Pg Go.Proofs.YtlinolgbpnokcaaGreatDoor.Bk
set_option linter.unusedSimpArgs false
set_option linter.unusedVariables false
set_option maxRecDepth 1000000 in
set_option maxHeartbeats 8000000 in
theorem set_ok (w : World) (B0 pb ob qb wb : Nat) (kk D X : Int) (L : List UInt8) (kd bt dp nn : Int) (good : Bool) (xs : List Int) (hv f0 : Value) (hs : Seen kk D X L good xs) (hf0 : f0 = .int .i64 (if good = true then 0 else 2)) (hb : Rb w B0 pb ob qb wb kk D X L kd bt dp nn) (hh : Have w hv good xs) (hne : ∀ b off n c, hv = .slice (some ⟨b, off, none⟩) n c → b ≠ qb) (hg : good = true) (hok : SetOk D bt dp nn)
    (u0 u1 u2 u3 u4 u5 u6 u7 u8 u10 u11 u12 u13 u21 u22 u23 u24 u25 u26 u27 u28 u29 u30 u31 u32 u33 u34 u35 u36 u37 u38 u39 u40 u41 u42 u43 u44 u45 u46 u47 u48 u49 u50 u51 u52 u53 u54 u55 u56 u57 u58 u59 u60 u61 u62 u63 u64 u65 u66 u67 u68 u69 u70 u71 u72 u73 u74 u75 u76 u77 u78 u79 u80 u81 u82 u83 u84 u85 u86 u87 u88 u89 u90 u91 u92 u93 u94 u95 u96 u97 u98 u99 u100 u102 u103 u104 u105 u106 u107 u108 u109 u110 u111 u112 u113 u114 u115 u116 u117 u118 u119 u120 u121 u122 u123 u124 u125 u126 u127 u128 u129 u130 u131 u132 u133 u134 u135 u136 u137 u138 u139 u140 u141 u142 u143 u144 u145 u146 u147 u148 u149 u150 u151 u152 u153 u154 u155 u156 u157 u158 u159 u160 u161 u162 u163 u164 u165 u166 u167 u168 u169 u170 u171 u172 u173 u174 u175 u176 u177 u178 u179 u180 u181 u182 u183 u184 u185 u186 u187 u188 u189 u190 u191 u192 u193 u194 u195 u196 u197 u198 u199 u200 u201 u202 u203 u204 u205 u206 u207 u208 u209 u210 u211 u212 u213 u214 u215 u216 u217 u218 u219 u220 u221 u222 u223 u224 u225 u226 u227 u228 u229 u230 u231 u232 u233 u234 u235 u236 u237 u238 u239 u240 u241 u242 u243 u244 u245 u246 u247 u248 u249 u250 u251 u252 u253 u254 u255 u256 u257 u258 u259 u260 u261 u262 u263 u264 u265 u266 u267 u268 u269 u270 u271 u272 u273 u274 u275 u276 u277 u278 u279 u280 u281 u282 u283 u284 u285 u286 u287 u288 u289 u290 u291 u292 u293 u294 u295 u296 u297 u298 u299 u300 u301 u302 u303 u304 u305 u306 u307 u308 u309 u310 u311 u312 u313 u314 u315 u316 u317 u318 u319 u320 : Value) (R : Exit → Act → World → Prop) (hP : Hid (∀ c a d v w, R (.panic c) (Act.put a d v) w → R (.panic c) a w))
    (hR : Hid (∀ (v22 v23 v102 v103 v104 v105 v106 v107 v108 v109 v110 v111 v112 v113 v114 v115 v116 v117 v118 v119 v120 v121 v122 v123 v124 v125 v126 v127 v128 v129 v130 v131 v132 v133 v134 v135 v136 v137 v138 v139 v140 v141 v142 v143 v144 v145 v146 v147 v148 v149 v150 v151 v152 v153 v154 v155 v156 v157 v158 v159 v160 v161 v162 v163 v164 v165 v166 v167 v168 v169 v170 v171 v172 v173 v174 v175 v176 v177 v178 v179 : Value) (E k' D' X' : Int) (L' : List UInt8) (w' : World), Dn w w' B0 ob qb wb kd bt dp nn k' D' X' L' → R .normal ⟨#[u0, u1, u2, u3, u4, u5, u6, u7, u8, .pointer (some ⟨pb, 0, none⟩), u10, u11, u12, u13, .pointer (some ⟨ob, 0, none⟩), hv, .bool good, .pointer (some ⟨qb, 0, none⟩), .pointer (some ⟨wb, 0, none⟩), .int .i64 E, .int .i64 E, u21, v22, v23, u24, u25, u26, u27, u28, u29, u30, u31, u32, u33, u34, u35, u36, u37, u38, u39, u40, u41, u42, u43, u44, u45, u46, u47, u48, u49, u50, u51, u52, u53, u54, u55, u56, u57, u58, u59, u60, u61, u62, u63, u64, u65, u66, u67, u68, u69, u70, u71, u72, u73, u74, u75, u76, u77, u78, u79, u80, u81, u82, u83, u84, u85, u86, u87, u88, u89, u90, u91, u92, u93, u94, u95, u96, u97, u98, u99, u100, .int .i64 kd, v102, v103, v104, v105, v106, v107, v108, v109, v110, v111, v112, v113, v114, v115, v116, v117, v118, v119, v120, v121, v122, v123, v124, v125, v126, v127, v128, v129, v130, v131, v132, v133, v134, v135, v136, v137, v138, v139, v140, v141, v142, v143, v144, v145, v146, v147, v148, v149, v150, v151, v152, v153, v154, v155, v156, v157, v158, v159, v160, v161, v162, v163, v164, v165, v166, v167, v168, v169, v170, v171, v172, v173, v174, v175, v176, v177, v178, v179, u180, u181, u182, u183, u184, u185, u186, u187, u188, u189, u190, u191, u192, u193, u194, u195, u196, u197, u198, u199, u200, u201, u202, u203, u204, u205, u206, u207, u208, u209, u210, u211, u212, u213, u214, u215, u216, u217, u218, u219, u220, u221, u222, u223, u224, u225, u226, u227, u228, u229, u230, u231, u232, u233, u234, u235, u236, u237, u238, u239, u240, u241, u242, u243, u244, u245, u246, u247, u248, u249, u250, u251, u252, u253, u254, u255, u256, u257, u258, u259, u260, u261, u262, u263, u264, u265, u266, u267, u268, u269, u270, u271, u272, u273, u274, u275, u276, u277, u278, u279, u280, u281, u282, u283, u284, u285, u286, u287, u288, u289, u290, u291, u292, u293, u294, u295, u296, u297, u298, u299, u300, u301, u302, u303, u304, u305, u306, u307, u308, u309, u310, u311, u312, u313, u314, u315, u316, u317, u318, u319, u320], []⟩ w')) :
    Code.wp Tryz.prog cSet R ⟨#[u0, u1, u2, u3, u4, u5, u6, u7, u8, .pointer (some ⟨pb, 0, none⟩), u10, u11, u12, u13, .pointer (some ⟨ob, 0, none⟩), hv, .bool good, .pointer (some ⟨qb, 0, none⟩), .pointer (some ⟨wb, 0, none⟩), .int .i64 0, f0, u21, u22, u23, u24, u25, u26, u27, u28, u29, u30, u31, u32, u33, u34, u35, u36, u37, u38, u39, u40, u41, u42, u43, u44, u45, u46, u47, u48, u49, u50, u51, u52, u53, u54, u55, u56, u57, u58, u59, u60, u61, u62, u63, u64, u65, u66, u67, u68, u69, u70, u71, u72, u73, u74, u75, u76, u77, u78, u79, u80, u81, u82, u83, u84, u85, u86, u87, u88, u89, u90, u91, u92, u93, u94, u95, u96, u97, u98, u99, u100, .int .i64 kd, u102, u103, u104, u105, u106, u107, u108, u109, u110, u111, u112, u113, u114, u115, u116, u117, u118, u119, u120, u121, u122, u123, u124, u125, u126, u127, u128, u129, u130, u131, u132, u133, u134, u135, u136, u137, u138, u139, u140, u141, u142, u143, u144, u145, u146, u147, u148, u149, u150, u151, u152, u153, u154, u155, u156, u157, u158, u159, u160, u161, u162, u163, u164, u165, u166, u167, u168, u169, u170, u171, u172, u173, u174, u175, u176, u177, u178, u179, u180, u181, u182, u183, u184, u185, u186, u187, u188, u189, u190, u191, u192, u193, u194, u195, u196, u197, u198, u199, u200, u201, u202, u203, u204, u205, u206, u207, u208, u209, u210, u211, u212, u213, u214, u215, u216, u217, u218, u219, u220, u221, u222, u223, u224, u225, u226, u227, u228, u229, u230, u231, u232, u233, u234, u235, u236, u237, u238, u239, u240, u241, u242, u243, u244, u245, u246, u247, u248, u249, u250, u251, u252, u253, u254, u255, u256, u257, u258, u259, u260, u261, u262, u263, u264, u265, u266, u267, u268, u269, u270, u271, u272, u273, u274, u275, u276, u277, u278, u279, u280, u281, u282, u283, u284, u285, u286, u287, u288, u289, u290, u291, u292, u293, u294, u295, u296, u297, u298, u299, u300, u301, u302, u303, u304, u305, u306, u307, u308, u309, u310, u311, u312, u313, u314, u315, u316, u317, u318, u319, u320], []⟩ w := by

  obtain ⟨p9, p14, p17, p18, hlt⟩ := hb
  have c9 := blk_cell p9
  have c14 := blk_cell p14
  have z9 := lt_of_block p9
  have z14 := lt_of_block p14
  have hB0 : B0 ≤ w.heap.size := by omega
  have hdb := Lib.hid (set_any kk D X L bt dp nn)
  have Hlt := Lib.hid hlt
  subst hg
  obtain ⟨hd, hxs⟩ := hs.dir rfl
  simp only [if_true] at hf0
  subst hf0
  have Hno := Lib.hid hd
  have Hxs := Lib.hid hxs
  have hx32 := hs.len
  have hle := hd.le
  have hlo := hd.lo
  have hhi := hd.hi
  obtain ⟨A, c, rfl, hcap, hin, _⟩ := hh
  obtain ⟨b, off, rfl, hbl, _⟩ := hin.2.2 (by omega)
  have hbq : b ≠ qb := hne _ _ _ _ rfl
  obtain ⟨i0, hif, hz0, hz1, hz2⟩ := info_parts info_int
  have Hin := Lib.hid hin
  clear hs hd hxs hlt hin
  obtain ⟨h1, h2, h3, h4, h5⟩ := hok
  have h1' : ¬ dp < 0 := by omega
  have h2' : ¬ D < dp := by omega
  have h3' : ¬ bt < 0 := by omega
  have e1 : decide (dp < 0) = false := by simpa using h1'
  have e2 : decide (D < dp) = false := by simpa using h2'
  have e3 : decide (bt < 0) = false := by simpa using h3'
  have h51 := h5.1
  have h52 := h5.2
  have H5 := Lib.hid h5
  clear h5
  obtain ⟨m, hm⟩ := Int.eq_ofNat_of_zero_le (show 0 ≤ dp by omega)
  have hm5 : m ≤ 5 := by omega
  obtain ⟨pe, pl, pu⟩ := pow_small m hm5
  obtain ⟨q, hq⟩ : ∃ q, q = 2 ^ m := ⟨_, rfl⟩
  have hqi : (2 : Int) ^ dp.toNat = (q : Int) := by rw [hm, pe, ← hq]
  rw [← hq] at pl pu
  have hmin : min dp 9 = dp := by omega
  have hmax : max dp 0 = dp := by omega
  have hqw : wrap64 ((2 : Int) ^ dp.toNat) = (q : Int) := by rw [hqi]; exact (wrap_small _ (by omega)).1
  have hqw2 : IntKind.i64.wrap ((2 : Int) ^ dp.toNat) = (q : Int) := by rw [hqi]; exact (wrap_small _ (by clear hqw; omega)).2
  have Hq := Lib.hid hq
  have Hqi := Lib.hid hqi
  have Hm := Lib.hid hm
  have HW := Lib.hid (And.intro hqw hqw2)
  clear hq pe hqi hm hqw hqw2
  rw [Hqi.out] at h4
  have Hok : Hid (SetOk D bt dp nn) := Lib.hid ⟨h1, h2, h3, by rw [Hqi.out]; exact h4, H5.out⟩
  have h4' : ¬ (q : Int) ≤ bt := by omega
  have e4 : decide ((q : Int) ≤ bt) = false := by simpa using h4'
  have e5 : decide (nn < 2) = false := by simp; omega
  have e6 : decide (64 ≤ nn) = false := by simp; omega
  obtain ⟨n, hn⟩ : ∃ n, n = xs.length := ⟨_, rfl⟩
  have hnl : (ints xs).length = n * 1 := by simp [ints, hn]
  have hone := ints_one xs
  have Hn := Lib.hid hn
  rw [← hn] at hx32 hle Hin hcap hR ⊢
  clear hn
  conv => arg 2; whnf
  go_wp2_with fail
  with_reducible refine (hdb.out _).mono ?_
  rintro e w1 ⟨⟨hno, _⟩ | ⟨n', hd, hnok, _⟩ | ⟨n', hd, _, rfl⟩, hb1⟩
  · exact absurd Hno.out (hno _)
  · exact absurd Hok.out hnok
  · obtain rfl : n' = xs.length := isDir_same hd Hno.out
    rw [← Hxs.out]
    obtain ⟨T, hT⟩ : ∃ T, T = bodyOf (setTo xs (2 ^ dp.toNat) bt nn xs.length) := ⟨_, rfl⟩
    rw [← hT]
    have HT := Lib.hid hT
    have hd1 := Lib.hid hd
    clear hd hT
    have x9 := blk_keep p9 hb1
    have x14 := blk_keep p14 hb1
    have x17 := blk_keep p17 hb1
    have x18 := blk_keep p18 hb1
    have y9 := blk_cell x9
    have y14 := blk_cell x14
    have y17 := blk_cell x17
    have y17f := blk_free x17
    have w9 := lt_of_block x9
    have w14 := lt_of_block x14
    have w17 := lt_of_block x17
    have hpq : pb ≠ qb := by have := Hlt.out; omega
    have hoq : ob ≠ qb := by have := Hlt.out; omega
    clear c9 c14 z9 z14
    go_wp2_with fail
    obtain ⟨w2, hw2⟩ : ∃ w2, w2 = set4 w1 qb (.int .i64 kk) (.int .i64 D) (.int .i64 X) (.string (str T)) := ⟨_, rfl⟩
    refine wp_world hw2 ?_
    have v9 : w2.heap[pb]? = some (pgo kk D X (str L)) := by rw [hw2]; exact hs4 x9 hpq
    have v14 : w2.heap[ob]? = some (opo kd bt dp nn) := by rw [hw2]; exact hs4 x14 hoq
    have v17 : w2.heap[qb]? = some (pgo kk D X (str T)) := by rw [hw2]; exact set4_same x17 _ _ _ _
    have v18 : w2.heap[wb]? = some (pgo 0 0 0 (str [])) := by rw [hw2]; exact hs4 x18 (by have := Hlt.out; omega)
    have vb : Hid (Below B0 w w2) := Lib.hid (by rw [hw2]; exact below_set4 (hb1.mono hB0) (by have := Hlt.out; omega) _ _ _ _)
    have Hin1 := Lib.hid (Ints.set4' (Hin.out.below hb1) hbq (a1 := .int .i64 kk) (a2 := .int .i64 D) (a3 := .int .i64 X) (a4 := .string (str T)))
    rw [← hw2] at Hin1
    clear x9 x14 x17 x18 y9 y14 y17 y17f w9 w14 w17 hw2 p9 p14 p17 p18 hb1
    obtain ⟨hqw, hqw2⟩ := HW.out
    refine wp_region_held_drew (S := (fun W' => W'.heap[pb]? = some (pgo kk D X (str L)) ∧ W'.heap[ob]? = some (opo kd bt dp nn))) (by kernel_rfl) (⟨v9, v14⟩) (fun hHeld => ?_)
    refine wpAnyH_take (i := 0) (v := ?_) rfl (by kernel_rfl) (by kernel_rfl) (by kernel_rfl) (fun _ _ _ h => hP.out _ _ _ _ _ h) (Or.inl ⟨by kernel_rfl, ?_⟩) hHeld ?_
    rotate_left
    · intro wq hSw
      have hSc := blk_cell hSw.1; have hSd := blk_cell hSw.2
      go_simp
      try rw [if_neg (by omega)]
      try rw [if_pos (by omega)]
      try with_reducible rfl
    try simp only [Act.put, List.getElem_toArray, List.getElem_cons_succ, List.getElem_cons_zero, List.setIfInBounds_toArray, List.set_cons_zero, List.set_cons_succ]
    refine wpAnyH_take (i := 1) (v := ?_) rfl (by kernel_rfl) (by kernel_rfl) (by kernel_rfl) (fun _ _ _ h => hP.out _ _ _ _ _ h) (Or.inl ⟨by kernel_rfl, ?_⟩) hHeld ?_
    rotate_left
    · intro wq hSw
      have hSc := blk_cell hSw.1; have hSd := blk_cell hSw.2
      go_simp
      try rw [if_neg (by omega)]
      try rw [if_pos (by omega)]
      try with_reducible rfl
    try simp only [Act.put, List.getElem_toArray, List.getElem_cons_succ, List.getElem_cons_zero, List.setIfInBounds_toArray, List.set_cons_zero, List.set_cons_succ]
    refine wpAnyH_take (i := 2) (v := ?_) rfl (by kernel_rfl) (by kernel_rfl) (by kernel_rfl) (fun _ _ _ h => hP.out _ _ _ _ _ h) (Or.inl ⟨by kernel_rfl, ?_⟩) hHeld ?_
    rotate_left
    · intro wq hSw
      have hSc := blk_cell hSw.1; have hSd := blk_cell hSw.2
      go_simp
      try rw [if_neg (by omega)]
      try rw [if_pos (by omega)]
      try with_reducible rfl
    try simp only [Act.put, List.getElem_toArray, List.getElem_cons_succ, List.getElem_cons_zero, List.setIfInBounds_toArray, List.set_cons_zero, List.set_cons_succ]
    refine wpAnyH_take (i := 3) (v := ?_) rfl (by kernel_rfl) (by kernel_rfl) (by kernel_rfl) (fun _ _ _ h => hP.out _ _ _ _ _ h) (Or.inl ⟨by kernel_rfl, ?_⟩) hHeld ?_
    rotate_left
    · intro wq hSw
      have hSc := blk_cell hSw.1; have hSd := blk_cell hSw.2
      go_simp
      try rw [if_neg (by omega)]
      try rw [if_pos (by omega)]
      try with_reducible rfl
    try simp only [Act.put, List.getElem_toArray, List.getElem_cons_succ, List.getElem_cons_zero, List.setIfInBounds_toArray, List.set_cons_zero, List.set_cons_succ]
    refine wpAnyH_take (i := 4) (v := ?_) rfl (by kernel_rfl) (by kernel_rfl) (by kernel_rfl) (fun _ _ _ h => hP.out _ _ _ _ _ h) (Or.inl ⟨by kernel_rfl, ?_⟩) hHeld ?_
    rotate_left
    · intro wq hSw
      have hSc := blk_cell hSw.1; have hSd := blk_cell hSw.2
      go_simp
      try rw [if_neg (by omega)]
      try rw [if_pos (by omega)]
      try with_reducible rfl
    try simp only [Act.put, List.getElem_toArray, List.getElem_cons_succ, List.getElem_cons_zero, List.setIfInBounds_toArray, List.set_cons_zero, List.set_cons_succ]
    refine wpAnyH_take (i := 5) (v := ?_) rfl (by kernel_rfl) (by kernel_rfl) (by kernel_rfl) (fun _ _ _ h => hP.out _ _ _ _ _ h) (Or.inl ⟨by kernel_rfl, ?_⟩) hHeld ?_
    rotate_left
    · intro wq hSw
      have hSc := blk_cell hSw.1; have hSd := blk_cell hSw.2
      go_simp
      try rw [if_neg (by omega)]
      try rw [if_pos (by omega)]
      try with_reducible rfl
    try simp only [Act.put, List.getElem_toArray, List.getElem_cons_succ, List.getElem_cons_zero, List.setIfInBounds_toArray, List.set_cons_zero, List.set_cons_succ]
    refine wpAnyH_take (i := 6) (v := ?_) rfl (by kernel_rfl) (by kernel_rfl) (by kernel_rfl) (fun _ _ _ h => hP.out _ _ _ _ _ h) (Or.inl ⟨by kernel_rfl, ?_⟩) hHeld ?_
    rotate_left
    · intro wq hSw
      have hSc := blk_cell hSw.1; have hSd := blk_cell hSw.2
      go_simp
      try rw [if_neg (by omega)]
      try rw [if_pos (by omega)]
      try with_reducible rfl
    try simp only [Act.put, List.getElem_toArray, List.getElem_cons_succ, List.getElem_cons_zero, List.setIfInBounds_toArray, List.set_cons_zero, List.set_cons_succ]
    refine wpAnyH_take (i := 7) (v := ?_) rfl (by kernel_rfl) (by kernel_rfl) (by kernel_rfl) (fun _ _ _ h => hP.out _ _ _ _ _ h) (Or.inl ⟨by kernel_rfl, ?_⟩) hHeld ?_
    rotate_left
    · intro wq hSw
      have hSc := blk_cell hSw.1; have hSd := blk_cell hSw.2
      go_simp
      try rw [if_neg (by omega)]
      try rw [if_pos (by omega)]
      try with_reducible rfl
    try simp only [Act.put, List.getElem_toArray, List.getElem_cons_succ, List.getElem_cons_zero, List.setIfInBounds_toArray, List.set_cons_zero, List.set_cons_succ]
    refine wpAnyH_take (i := 8) (v := ?_) rfl (by kernel_rfl) (by kernel_rfl) (by kernel_rfl) (fun _ _ _ h => hP.out _ _ _ _ _ h) (Or.inl ⟨by kernel_rfl, ?_⟩) hHeld ?_
    rotate_left
    · intro wq hSw
      have hSc := blk_cell hSw.1; have hSd := blk_cell hSw.2
      go_simp
      try rw [if_neg (by omega)]
      try rw [if_pos (by omega)]
      try with_reducible rfl
    try simp only [Act.put, List.getElem_toArray, List.getElem_cons_succ, List.getElem_cons_zero, List.setIfInBounds_toArray, List.set_cons_zero, List.set_cons_succ]
    refine wpAnyH_take (i := 9) (v := ?_) rfl (by kernel_rfl) (by kernel_rfl) (by kernel_rfl) (fun _ _ _ h => hP.out _ _ _ _ _ h) (Or.inl ⟨by kernel_rfl, ?_⟩) hHeld ?_
    rotate_left
    · intro wq hSw
      have hSc := blk_cell hSw.1; have hSd := blk_cell hSw.2
      go_simp
      try rw [if_neg (by omega)]
      try rw [if_pos (by omega)]
      try with_reducible rfl
    try simp only [Act.put, List.getElem_toArray, List.getElem_cons_succ, List.getElem_cons_zero, List.setIfInBounds_toArray, List.set_cons_zero, List.set_cons_succ]
    refine wpAnyH_take (i := 10) (v := ?_) rfl (by kernel_rfl) (by kernel_rfl) (by kernel_rfl) (fun _ _ _ h => hP.out _ _ _ _ _ h) (Or.inl ⟨by kernel_rfl, ?_⟩) hHeld ?_
    rotate_left
    · intro wq hSw
      have hSc := blk_cell hSw.1; have hSd := blk_cell hSw.2
      go_simp
      try rw [if_neg (by omega)]
      try rw [if_pos (by omega)]
      try with_reducible rfl
    try simp only [Act.put, List.getElem_toArray, List.getElem_cons_succ, List.getElem_cons_zero, List.setIfInBounds_toArray, List.set_cons_zero, List.set_cons_succ]
    refine wpAnyH_take (i := 11) (v := ?_) rfl (by kernel_rfl) (by kernel_rfl) (by kernel_rfl) (fun _ _ _ h => hP.out _ _ _ _ _ h) (Or.inl ⟨by kernel_rfl, ?_⟩) hHeld ?_
    rotate_left
    · intro wq hSw
      have hSc := blk_cell hSw.1; have hSd := blk_cell hSw.2
      go_simp
      try rw [if_neg (by omega)]
      try rw [if_pos (by omega)]
      try with_reducible rfl
    try simp only [Act.put, List.getElem_toArray, List.getElem_cons_succ, List.getElem_cons_zero, List.setIfInBounds_toArray, List.set_cons_zero, List.set_cons_succ]
    refine wpAnyH_take (i := 12) (v := ?_) rfl (by kernel_rfl) (by kernel_rfl) (by kernel_rfl) (fun _ _ _ h => hP.out _ _ _ _ _ h) (Or.inl ⟨by kernel_rfl, ?_⟩) hHeld ?_
    rotate_left
    · intro wq hSw
      have hSc := blk_cell hSw.1; have hSd := blk_cell hSw.2
      go_simp
      try rw [if_neg (by omega)]
      try rw [if_pos (by omega)]
      try with_reducible rfl
    try simp only [Act.put, List.getElem_toArray, List.getElem_cons_succ, List.getElem_cons_zero, List.setIfInBounds_toArray, List.set_cons_zero, List.set_cons_succ]
    refine wpAnyH_take (i := 13) (v := ?_) rfl (by kernel_rfl) (by kernel_rfl) (by kernel_rfl) (fun _ _ _ h => hP.out _ _ _ _ _ h) (Or.inl ⟨by kernel_rfl, ?_⟩) hHeld ?_
    rotate_left
    · intro wq hSw
      have hSc := blk_cell hSw.1; have hSd := blk_cell hSw.2
      go_simp
      try rw [if_neg (by omega)]
      try rw [if_pos (by omega)]
      try with_reducible rfl
    try simp only [Act.put, List.getElem_toArray, List.getElem_cons_succ, List.getElem_cons_zero, List.setIfInBounds_toArray, List.set_cons_zero, List.set_cons_succ]
    refine wpAnyH_take (i := 14) (v := ?_) rfl (by kernel_rfl) (by kernel_rfl) (by kernel_rfl) (fun _ _ _ h => hP.out _ _ _ _ _ h) (Or.inl ⟨by kernel_rfl, ?_⟩) hHeld ?_
    rotate_left
    · intro wq hSw
      have hSc := blk_cell hSw.1; have hSd := blk_cell hSw.2
      go_simp
      try rw [if_neg (by omega)]
      try rw [if_pos (by omega)]
      try with_reducible rfl
    try simp only [Act.put, List.getElem_toArray, List.getElem_cons_succ, List.getElem_cons_zero, List.setIfInBounds_toArray, List.set_cons_zero, List.set_cons_succ]
    refine wpAnyH_take (i := 15) (v := ?_) rfl (by kernel_rfl) (by kernel_rfl) (by kernel_rfl) (fun _ _ _ h => hP.out _ _ _ _ _ h) (Or.inl ⟨by kernel_rfl, ?_⟩) hHeld ?_
    rotate_left
    · intro wq hSw
      have hSc := blk_cell hSw.1; have hSd := blk_cell hSw.2
      go_simp
      try rw [if_neg (by omega)]
      try rw [if_pos (by omega)]
      try with_reducible rfl
    try simp only [Act.put, List.getElem_toArray, List.getElem_cons_succ, List.getElem_cons_zero, List.setIfInBounds_toArray, List.set_cons_zero, List.set_cons_succ]
    refine wpAnyH_take (i := 16) (v := ?_) rfl (by kernel_rfl) (by kernel_rfl) (by kernel_rfl) (fun _ _ _ h => hP.out _ _ _ _ _ h) (Or.inl ⟨by kernel_rfl, ?_⟩) hHeld ?_
    rotate_left
    · intro wq hSw
      have hSc := blk_cell hSw.1; have hSd := blk_cell hSw.2
      go_simp
      try rw [if_neg (by omega)]
      try rw [if_pos (by omega)]
      try with_reducible rfl
    try simp only [Act.put, List.getElem_toArray, List.getElem_cons_succ, List.getElem_cons_zero, List.setIfInBounds_toArray, List.set_cons_zero, List.set_cons_succ]
    refine wpAnyH_take (i := 17) (v := ?_) rfl (by kernel_rfl) (by kernel_rfl) (by kernel_rfl) (fun _ _ _ h => hP.out _ _ _ _ _ h) (Or.inl ⟨by kernel_rfl, ?_⟩) hHeld ?_
    rotate_left
    · intro wq hSw
      have hSc := blk_cell hSw.1; have hSd := blk_cell hSw.2
      go_simp
      try rw [if_neg (by omega)]
      try rw [if_pos (by omega)]
      try with_reducible rfl
    try simp only [Act.put, List.getElem_toArray, List.getElem_cons_succ, List.getElem_cons_zero, List.setIfInBounds_toArray, List.set_cons_zero, List.set_cons_succ]
    refine wpAnyH_take (i := 18) (v := ?_) rfl (by kernel_rfl) (by kernel_rfl) (by kernel_rfl) (fun _ _ _ h => hP.out _ _ _ _ _ h) (Or.inl ⟨by kernel_rfl, ?_⟩) hHeld ?_
    rotate_left
    · intro wq hSw
      have hSc := blk_cell hSw.1; have hSd := blk_cell hSw.2
      go_simp
      try rw [if_neg (by omega)]
      try rw [if_pos (by omega)]
      try with_reducible rfl
    try simp only [Act.put, List.getElem_toArray, List.getElem_cons_succ, List.getElem_cons_zero, List.setIfInBounds_toArray, List.set_cons_zero, List.set_cons_succ]
    refine wpAnyH_take (i := 19) (v := ?_) rfl (by kernel_rfl) (by kernel_rfl) (by kernel_rfl) (fun _ _ _ h => hP.out _ _ _ _ _ h) (Or.inl ⟨by kernel_rfl, ?_⟩) hHeld ?_
    rotate_left
    · intro wq hSw
      have hSc := blk_cell hSw.1; have hSd := blk_cell hSw.2
      go_simp
      try rw [if_neg (by omega)]
      try rw [if_pos (by omega)]
      try with_reducible rfl
    try simp only [Act.put, List.getElem_toArray, List.getElem_cons_succ, List.getElem_cons_zero, List.setIfInBounds_toArray, List.set_cons_zero, List.set_cons_succ]
    refine wpAnyH_take (i := 20) (v := ?_) rfl (by kernel_rfl) (by kernel_rfl) (by kernel_rfl) (fun _ _ _ h => hP.out _ _ _ _ _ h) (Or.inl ⟨by kernel_rfl, ?_⟩) hHeld ?_
    rotate_left
    · intro wq hSw
      have hSc := blk_cell hSw.1; have hSd := blk_cell hSw.2
      go_simp
      try rw [if_neg (by omega)]
      try rw [if_pos (by omega)]
      try with_reducible rfl
    try simp only [Act.put, List.getElem_toArray, List.getElem_cons_succ, List.getElem_cons_zero, List.setIfInBounds_toArray, List.set_cons_zero, List.set_cons_succ]
    refine wpAnyH_take (i := 21) (v := ?_) rfl (by kernel_rfl) (by kernel_rfl) (by kernel_rfl) (fun _ _ _ h => hP.out _ _ _ _ _ h) (Or.inl ⟨by kernel_rfl, ?_⟩) hHeld ?_
    rotate_left
    · intro wq hSw
      have hSc := blk_cell hSw.1; have hSd := blk_cell hSw.2
      go_simp
      try rw [if_neg (by omega)]
      try rw [if_pos (by omega)]
      try with_reducible rfl
    try simp only [Act.put, List.getElem_toArray, List.getElem_cons_succ, List.getElem_cons_zero, List.setIfInBounds_toArray, List.set_cons_zero, List.set_cons_succ]
    refine wpAnyH_take (i := 22) (v := ?_) rfl (by kernel_rfl) (by kernel_rfl) (by kernel_rfl) (fun _ _ _ h => hP.out _ _ _ _ _ h) (Or.inl ⟨by kernel_rfl, ?_⟩) hHeld ?_
    rotate_left
    · intro wq hSw
      have hSc := blk_cell hSw.1; have hSd := blk_cell hSw.2
      go_simp
      try rw [if_neg (by omega)]
      try rw [if_pos (by omega)]
      try with_reducible rfl
    try simp only [Act.put, List.getElem_toArray, List.getElem_cons_succ, List.getElem_cons_zero, List.setIfInBounds_toArray, List.set_cons_zero, List.set_cons_succ]
    refine wpAnyH_take (i := 23) (v := ?_) rfl (by kernel_rfl) (by kernel_rfl) (by kernel_rfl) (fun _ _ _ h => hP.out _ _ _ _ _ h) (Or.inl ⟨by kernel_rfl, ?_⟩) hHeld ?_
    rotate_left
    · intro wq hSw
      have hSc := blk_cell hSw.1; have hSd := blk_cell hSw.2
      go_simp
      try rw [if_neg (by omega)]
      try rw [if_pos (by omega)]
      try with_reducible rfl
    try simp only [Act.put, List.getElem_toArray, List.getElem_cons_succ, List.getElem_cons_zero, List.setIfInBounds_toArray, List.set_cons_zero, List.set_cons_succ]
    refine wpAnyH_take (i := 24) (v := ?_) rfl (by kernel_rfl) (by kernel_rfl) (by kernel_rfl) (fun _ _ _ h => hP.out _ _ _ _ _ h) (Or.inl ⟨by kernel_rfl, ?_⟩) hHeld ?_
    rotate_left
    · intro wq hSw
      have hSc := blk_cell hSw.1; have hSd := blk_cell hSw.2
      go_simp
      try rw [if_neg (by omega)]
      try rw [if_pos (by omega)]
      try with_reducible rfl
    try simp only [Act.put, List.getElem_toArray, List.getElem_cons_succ, List.getElem_cons_zero, List.setIfInBounds_toArray, List.set_cons_zero, List.set_cons_succ]
    refine wpAnyH_take (i := 25) (v := ?_) rfl (by kernel_rfl) (by kernel_rfl) (by kernel_rfl) (fun _ _ _ h => hP.out _ _ _ _ _ h) (Or.inl ⟨by kernel_rfl, ?_⟩) hHeld ?_
    rotate_left
    · intro wq hSw
      have hSc := blk_cell hSw.1; have hSd := blk_cell hSw.2
      go_simp
      try rw [if_neg (by omega)]
      try rw [if_pos (by omega)]
      try with_reducible rfl
    try simp only [Act.put, List.getElem_toArray, List.getElem_cons_succ, List.getElem_cons_zero, List.setIfInBounds_toArray, List.set_cons_zero, List.set_cons_succ]
    refine wpAnyH_take (i := 26) (v := ?_) rfl (by kernel_rfl) (by kernel_rfl) (by kernel_rfl) (fun _ _ _ h => hP.out _ _ _ _ _ h) (Or.inl ⟨by kernel_rfl, ?_⟩) hHeld ?_
    rotate_left
    · intro wq hSw
      have hSc := blk_cell hSw.1; have hSd := blk_cell hSw.2
      go_simp
      try rw [if_neg (by omega)]
      try rw [if_pos (by omega)]
      try with_reducible rfl
    try simp only [Act.put, List.getElem_toArray, List.getElem_cons_succ, List.getElem_cons_zero, List.setIfInBounds_toArray, List.set_cons_zero, List.set_cons_succ]
    refine wpAnyH_take (i := 27) (v := ?_) rfl (by kernel_rfl) (by kernel_rfl) (by kernel_rfl) (fun _ _ _ h => hP.out _ _ _ _ _ h) (Or.inl ⟨by kernel_rfl, ?_⟩) hHeld ?_
    rotate_left
    · intro wq hSw
      have hSc := blk_cell hSw.1; have hSd := blk_cell hSw.2
      go_simp
      try rw [if_neg (by omega)]
      try rw [if_pos (by omega)]
      try with_reducible rfl
    try simp only [Act.put, List.getElem_toArray, List.getElem_cons_succ, List.getElem_cons_zero, List.setIfInBounds_toArray, List.set_cons_zero, List.set_cons_succ]
    refine wpAnyH_take (i := 28) (v := ?_) rfl (by kernel_rfl) (by kernel_rfl) (by kernel_rfl) (fun _ _ _ h => hP.out _ _ _ _ _ h) (Or.inl ⟨by kernel_rfl, ?_⟩) hHeld ?_
    rotate_left
    · intro wq hSw
      have hSc := blk_cell hSw.1; have hSd := blk_cell hSw.2
      go_simp
      try rw [if_neg (by omega)]
      try rw [if_pos (by omega)]
      try with_reducible rfl
    try simp only [Act.put, List.getElem_toArray, List.getElem_cons_succ, List.getElem_cons_zero, List.setIfInBounds_toArray, List.set_cons_zero, List.set_cons_succ]
    refine wpAnyH_take (i := 29) (v := ?_) rfl (by kernel_rfl) (by kernel_rfl) (by kernel_rfl) (fun _ _ _ h => hP.out _ _ _ _ _ h) (Or.inl ⟨by kernel_rfl, ?_⟩) hHeld ?_
    rotate_left
    · intro wq hSw
      have hSc := blk_cell hSw.1; have hSd := blk_cell hSw.2
      go_simp
      try rw [if_neg (by omega)]
      try rw [if_pos (by omega)]
      try with_reducible rfl
    try simp only [Act.put, List.getElem_toArray, List.getElem_cons_succ, List.getElem_cons_zero, List.setIfInBounds_toArray, List.set_cons_zero, List.set_cons_succ]
    refine wpAnyH_take (i := 30) (v := ?_) rfl (by kernel_rfl) (by kernel_rfl) (by kernel_rfl) (fun _ _ _ h => hP.out _ _ _ _ _ h) (Or.inl ⟨by kernel_rfl, ?_⟩) hHeld ?_
    rotate_left
    · intro wq hSw
      have hSc := blk_cell hSw.1; have hSd := blk_cell hSw.2
      go_simp
      try rw [if_neg (by omega)]
      try rw [if_pos (by omega)]
      try with_reducible rfl
    try simp only [Act.put, List.getElem_toArray, List.getElem_cons_succ, List.getElem_cons_zero, List.setIfInBounds_toArray, List.set_cons_zero, List.set_cons_succ]
    refine wpAnyH_take (i := 31) (v := ?_) rfl (by kernel_rfl) (by kernel_rfl) (by kernel_rfl) (fun _ _ _ h => hP.out _ _ _ _ _ h) (Or.inl ⟨by kernel_rfl, ?_⟩) hHeld ?_
    rotate_left
    · intro wq hSw
      have hSc := blk_cell hSw.1; have hSd := blk_cell hSw.2
      go_simp
      try rw [if_neg (by omega)]
      try rw [if_pos (by omega)]
      try with_reducible rfl
    try simp only [Act.put, List.getElem_toArray, List.getElem_cons_succ, List.getElem_cons_zero, List.setIfInBounds_toArray, List.set_cons_zero, List.set_cons_succ]
    refine wpAnyH_take (i := 32) (v := ?_) rfl (by kernel_rfl) (by kernel_rfl) (by kernel_rfl) (fun _ _ _ h => hP.out _ _ _ _ _ h) (Or.inl ⟨by kernel_rfl, ?_⟩) hHeld ?_
    rotate_left
    · intro wq hSw
      have hSc := blk_cell hSw.1; have hSd := blk_cell hSw.2
      go_simp
      try rw [if_neg (by omega)]
      try rw [if_pos (by omega)]
      try with_reducible rfl
    try simp only [Act.put, List.getElem_toArray, List.getElem_cons_succ, List.getElem_cons_zero, List.setIfInBounds_toArray, List.set_cons_zero, List.set_cons_succ]
    refine wpAnyH_take (i := 33) (v := ?_) rfl (by kernel_rfl) (by kernel_rfl) (by kernel_rfl) (fun _ _ _ h => hP.out _ _ _ _ _ h) (Or.inl ⟨by kernel_rfl, ?_⟩) hHeld ?_
    rotate_left
    · intro wq hSw
      have hSc := blk_cell hSw.1; have hSd := blk_cell hSw.2
      go_simp
      try rw [if_neg (by omega)]
      try rw [if_pos (by omega)]
      try with_reducible rfl
    try simp only [Act.put, List.getElem_toArray, List.getElem_cons_succ, List.getElem_cons_zero, List.setIfInBounds_toArray, List.set_cons_zero, List.set_cons_succ]
    refine wpAnyH_take (i := 34) (v := ?_) rfl (by kernel_rfl) (by kernel_rfl) (by kernel_rfl) (fun _ _ _ h => hP.out _ _ _ _ _ h) (Or.inl ⟨by kernel_rfl, ?_⟩) hHeld ?_
    rotate_left
    · intro wq hSw
      have hSc := blk_cell hSw.1; have hSd := blk_cell hSw.2
      go_simp
      try rw [if_neg (by omega)]
      try rw [if_pos (by omega)]
      try with_reducible rfl
    try simp only [Act.put, List.getElem_toArray, List.getElem_cons_succ, List.getElem_cons_zero, List.setIfInBounds_toArray, List.set_cons_zero, List.set_cons_succ]
    refine wpAnyH_take (i := 35) (v := ?_) rfl (by kernel_rfl) (by kernel_rfl) (by kernel_rfl) (fun _ _ _ h => hP.out _ _ _ _ _ h) (Or.inl ⟨by kernel_rfl, ?_⟩) hHeld ?_
    rotate_left
    · intro wq hSw
      have hSc := blk_cell hSw.1; have hSd := blk_cell hSw.2
      go_simp
      try rw [if_neg (by omega)]
      try rw [if_pos (by omega)]
      try with_reducible rfl
    try simp only [Act.put, List.getElem_toArray, List.getElem_cons_succ, List.getElem_cons_zero, List.setIfInBounds_toArray, List.set_cons_zero, List.set_cons_succ]
    refine wpAnyH_take (i := 36) (v := ?_) rfl (by kernel_rfl) (by kernel_rfl) (by kernel_rfl) (fun _ _ _ h => hP.out _ _ _ _ _ h) (Or.inl ⟨by kernel_rfl, ?_⟩) hHeld ?_
    rotate_left
    · intro wq hSw
      have hSc := blk_cell hSw.1; have hSd := blk_cell hSw.2
      go_simp
      try rw [if_neg (by omega)]
      try rw [if_pos (by omega)]
      try with_reducible rfl
    try simp only [Act.put, List.getElem_toArray, List.getElem_cons_succ, List.getElem_cons_zero, List.setIfInBounds_toArray, List.set_cons_zero, List.set_cons_succ]
    refine wpAnyH_take (i := 37) (v := ?_) rfl (by kernel_rfl) (by kernel_rfl) (by kernel_rfl) (fun _ _ _ h => hP.out _ _ _ _ _ h) (Or.inl ⟨by kernel_rfl, ?_⟩) hHeld ?_
    rotate_left
    · intro wq hSw
      have hSc := blk_cell hSw.1; have hSd := blk_cell hSw.2
      go_simp
      try rw [if_neg (by omega)]
      try rw [if_pos (by omega)]
      try with_reducible rfl
    try simp only [Act.put, List.getElem_toArray, List.getElem_cons_succ, List.getElem_cons_zero, List.setIfInBounds_toArray, List.set_cons_zero, List.set_cons_succ]
    refine wpAnyH_done (by kernel_rfl) ?_ _
    clear hHeld hqw hqw2 hmin hmax
    have u9 : w2.drew.heap[pb]? = some (pgo kk D X (str L)) := v9
    have u14 : w2.drew.heap[ob]? = some (opo kd bt dp nn) := v14
    have u17 : w2.drew.heap[qb]? = some (pgo kk D X (str T)) := v17
    have u18 : w2.drew.heap[wb]? = some (pgo 0 0 0 (str [])) := v18
    have ub : Hid (Below B0 w w2.drew) := Lib.hid (below_dr vb.out)
    have Hin2 := Lib.hid (Hin1.out.below (below_dr (Below.refl _ w2)))
    generalize w2.drew = w3 at *
    clear v9 v14 v17 v18 vb Hin1
    have hnews3 := Lib.hid (ints_news Hin2.out)
    go_wp2_with (at_builtin; refine wpList_append_lies _ rfl (.const (.slice none 0 0)) (.tmp 153) _ rfl w3.heap.size 3 i0 (.int .i64 0) 1 8 Tryz.underlying29 hif hz0 hz1 hz2 rfl (by decide) nl 0 [] rfl (World.ownsRow_nil _ _ _ _) ⟨b, off, none⟩ n c (ints xs) rfl hnl hnews3.out hone (by omega) (by unfold maxLen; omega) (by omega) (Nat.le_refl _) _ rfl ?_; intro g1 c1 w4 ho1 hg1 hat1 hl1; simp only [Nat.zero_add, List.nil_append] at ho1 ⊢)
    have hb34 : Below w3.heap.size w3 w4 := below_grown (Below.refl _ w3) (Nat.le_refl _) (World.ownsRow_nil w3 w3.heap.size 3 1) hg1
    have f9 := blk_keep u9 hb34
    have f14 := blk_keep u14 hb34
    have f17 := blk_keep u17 hb34
    have f18 := blk_keep u18 hb34
    have fb : Below B0 w w4 := ub.out.trans (hb34.mono (by have := ub.out.size; omega))
    have hge : g1 = w3.heap.size := by
      rcases hat1 with h | h
      · simp [Value.ownBlock] at h
      · exact h
    have hw3 : wb < w3.heap.size := lt_of_block u18
    have Hge := Lib.hid hge
    have hno3 : Hid (pb ≠ g1 ∧ ob ≠ g1 ∧ qb ≠ g1 ∧ wb ≠ g1 ∧ B0 ≤ g1) := Lib.hid (by have := Hlt.out; omega)
    have hq32 : q ≤ 32 := pu
    have Hand := Lib.hid (and_q q m Hq.out hm5)
    clear u9 u14 u17 u18 Hin2 hb34 hg1 hat1 hge hnews3
    go_loopw [157] (fun i wr => ∃ j : Nat, i = .int .i64 j ∧ j ≤ n ∧ wr.heap[pb]? = some (pgo kk D X (str L)) ∧ wr.heap[ob]? = some (opo kd bt dp nn) ∧ wr.heap[qb]? = some (pgo kk D X (str T)) ∧ wr.heap[wb]? = some (pgo 0 0 0 (str [])) ∧ wr.ownsRow w3.heap.size 3 1 (.slice (some ⟨g1, 0, none⟩) n c1) n (ints (setTo xs q bt nn j)) ∧ Below B0 w wr) (fun i _ => n - (intOf i).toNat)
    case atStart => exact ⟨0, rfl, Nat.zero_le _, f9, f14, f17, f18, by rw [setTo_zero]; exact ho1, fb⟩
    case round =>
      clear f9 f14 f17 f18 ho1 fb hl1
      obtain ⟨j, rfl, hj, f9, f14, f17, f18, fown, fbel⟩ := hrel
      by_cases hlt : j < n
      · obtain ⟨r, hr⟩ : ∃ r, r = j % q := ⟨_, rfl⟩
        obtain ⟨qm, hqm⟩ : ∃ qm : Int, qm = (q : Int) - 1 := ⟨_, rfl⟩
        have i2 := Hand.out j (by omega)
        rw [← hqm, ← hr] at i2
        have i1 : IntKind.i64.wrap ((q : Int) - 1) = qm := by rw [IntWalk.i64_in _ (by omega)]; exact hqm.symm
        have Hr := Lib.hid hr
        have Hf := Lib.hid fown
        have HI := Lib.hid (And.intro i1 i2)
        clear hr hqm fown i1 i2
        by_cases hbr : (r : Int) = bt
        · have dbr : ((r : Int) == bt) = true := by simpa using hbr
          have dbr' : decide ((r : Int) = bt) = true := by simpa using hbr
          have Hbr := Lib.hid hbr
          have hxy : Hid ((ints (setTo xs q bt nn j)).set j (.int .i64 nn) = ints (setTo xs q bt nn (j + 1))) := Lib.hid (by
            rw [setTo_yes _ _ _ _ _ (by rw [← Hr.out]; exact Hbr.out), ints, ints, List.map_set])
          have hget : wr.drew.cell? ⟨g1, j, none⟩ = some (.int .i64 ((setTo xs q bt nn j).getD j 0)) := by
            have hL : j < (setTo xs q bt nn j).length := by rw [setTo_len, ← Hn.out]; exact hlt
            refine own_at (Hf.out.drew) j _ ?_
            rw [ints, List.getElem?_map, List.getElem?_eq_getElem hL, List.getD_eq_getElem?_getD, List.getElem?_eq_getElem hL]
            rfl
          have hfre := own_free (Hf.out.drew) j
          have c14 := blk_cell (w := wr.drew) f14
          have z14 := lt_of_block (w := wr.drew) f14
          have zg := own_lt (Hf.out.drew) g1 rfl
          clear hbr
          obtain ⟨i1, i2⟩ := HI.out
          obtain ⟨hqw, hqw2⟩ := HW.out
          go_wp2_with fail
          refine wp_region_held_drew (S := (fun W' => W'.heap[ob]? = some (opo kd bt dp nn))) (by kernel_rfl) (f14) (fun hHeld => ?_)
          refine wpAnyH_take (i := 0) (v := ?_) rfl (by kernel_rfl) (by kernel_rfl) (by kernel_rfl) (fun _ _ _ h => hP.out _ _ _ _ _ h) (Or.inl ⟨by kernel_rfl, ?_⟩) hHeld ?_
          rotate_left
          · intro wq hSw
            have hSd := blk_cell hSw
            go_simp
            try rw [if_neg (by omega)]
            try rw [if_pos (by omega)]
            try with_reducible rfl
          try simp only [Act.put, List.getElem_toArray, List.getElem_cons_succ, List.getElem_cons_zero, List.setIfInBounds_toArray, List.set_cons_zero, List.set_cons_succ]
          refine wpAnyH_take (i := 1) (v := ?_) rfl (by kernel_rfl) (by kernel_rfl) (by kernel_rfl) (fun _ _ _ h => hP.out _ _ _ _ _ h) (Or.inl ⟨by kernel_rfl, ?_⟩) hHeld ?_
          rotate_left
          · intro wq hSw
            have hSd := blk_cell hSw
            go_simp
            try rw [if_neg (by omega)]
            try rw [if_pos (by omega)]
            try with_reducible rfl
          try simp only [Act.put, List.getElem_toArray, List.getElem_cons_succ, List.getElem_cons_zero, List.setIfInBounds_toArray, List.set_cons_zero, List.set_cons_succ]
          refine wpAnyH_take (i := 2) (v := ?_) rfl (by kernel_rfl) (by kernel_rfl) (by kernel_rfl) (fun _ _ _ h => hP.out _ _ _ _ _ h) (Or.inl ⟨by kernel_rfl, ?_⟩) hHeld ?_
          rotate_left
          · intro wq hSw
            have hSd := blk_cell hSw
            go_simp
            try rw [if_neg (by omega)]
            try rw [if_pos (by omega)]
            try with_reducible rfl
          try simp only [Act.put, List.getElem_toArray, List.getElem_cons_succ, List.getElem_cons_zero, List.setIfInBounds_toArray, List.set_cons_zero, List.set_cons_succ]
          refine wpAnyH_take (i := 3) (v := ?_) rfl (by kernel_rfl) (by kernel_rfl) (by kernel_rfl) (fun _ _ _ h => hP.out _ _ _ _ _ h) (Or.inl ⟨by kernel_rfl, ?_⟩) hHeld ?_
          rotate_left
          · intro wq hSw
            have hSd := blk_cell hSw
            go_simp
            try rw [if_neg (by omega)]
            try rw [if_pos (by omega)]
            try with_reducible rfl
          try simp only [Act.put, List.getElem_toArray, List.getElem_cons_succ, List.getElem_cons_zero, List.setIfInBounds_toArray, List.set_cons_zero, List.set_cons_succ]
          refine wpAnyH_take (i := 4) (v := ?_) rfl (by kernel_rfl) (by kernel_rfl) (by kernel_rfl) (fun _ _ _ h => hP.out _ _ _ _ _ h) (Or.inl ⟨by kernel_rfl, ?_⟩) hHeld ?_
          rotate_left
          · intro wq hSw
            have hSd := blk_cell hSw
            go_simp
            try rw [if_neg (by omega)]
            try rw [if_pos (by omega)]
            try with_reducible rfl
          try simp only [Act.put, List.getElem_toArray, List.getElem_cons_succ, List.getElem_cons_zero, List.setIfInBounds_toArray, List.set_cons_zero, List.set_cons_succ]
          refine wpAnyH_take (i := 5) (v := ?_) rfl (by kernel_rfl) (by kernel_rfl) (by kernel_rfl) (fun _ _ _ h => hP.out _ _ _ _ _ h) (Or.inl ⟨by kernel_rfl, ?_⟩) hHeld ?_
          rotate_left
          · intro wq hSw
            have hSd := blk_cell hSw
            go_simp
            try rw [if_neg (by omega)]
            try rw [if_pos (by omega)]
            try with_reducible rfl
          try simp only [Act.put, List.getElem_toArray, List.getElem_cons_succ, List.getElem_cons_zero, List.setIfInBounds_toArray, List.set_cons_zero, List.set_cons_succ]
          refine wpAnyH_take (i := 6) (v := ?_) rfl (by kernel_rfl) (by kernel_rfl) (by kernel_rfl) (fun _ _ _ h => hP.out _ _ _ _ _ h) (Or.inl ⟨by kernel_rfl, ?_⟩) hHeld ?_
          rotate_left
          · intro wq hSw
            have hSd := blk_cell hSw
            go_simp
            try rw [if_neg (by omega)]
            try rw [if_pos (by omega)]
            try with_reducible rfl
          try simp only [Act.put, List.getElem_toArray, List.getElem_cons_succ, List.getElem_cons_zero, List.setIfInBounds_toArray, List.set_cons_zero, List.set_cons_succ]
          refine wpAnyH_take (i := 7) (v := ?_) rfl (by kernel_rfl) (by kernel_rfl) (by kernel_rfl) (fun _ _ _ h => hP.out _ _ _ _ _ h) (Or.inl ⟨by kernel_rfl, ?_⟩) hHeld ?_
          rotate_left
          · intro wq hSw
            have hSd := blk_cell hSw
            go_simp
            try rw [if_neg (by omega)]
            try rw [if_pos (by omega)]
            try with_reducible rfl
          try simp only [Act.put, List.getElem_toArray, List.getElem_cons_succ, List.getElem_cons_zero, List.setIfInBounds_toArray, List.set_cons_zero, List.set_cons_succ]
          refine wpAnyH_take (i := 8) (v := ?_) rfl (by kernel_rfl) (by kernel_rfl) (by kernel_rfl) (fun _ _ _ h => hP.out _ _ _ _ _ h) (Or.inl ⟨by kernel_rfl, ?_⟩) hHeld ?_
          rotate_left
          · intro wq hSw
            have hSd := blk_cell hSw
            go_simp
            try rw [if_neg (by omega)]
            try rw [if_pos (by omega)]
            try with_reducible rfl
          try simp only [Act.put, List.getElem_toArray, List.getElem_cons_succ, List.getElem_cons_zero, List.setIfInBounds_toArray, List.set_cons_zero, List.set_cons_succ]
          refine wpAnyH_done (by kernel_rfl) ?_ _
          clear hHeld i1 i2 hqw hqw2
          go_wp2_with fail
          go_roundw
          case rel =>
            have hst := Hf.out.drew.stored j (.int .i64 nn)
            rw [hxy.out] at hst
            refine ⟨j + 1, by go_num, by omega, ?_, ?_, ?_, ?_, hst.1, below_set (below_dr fbel) hno3.out.2.2.2.2⟩
            · exact (heap_setCell_other wr.drew ⟨g1, j, none⟩ _ _ hno3.out.1).trans f9
            · exact (heap_setCell_other wr.drew ⟨g1, j, none⟩ _ _ hno3.out.2.1).trans f14
            · exact (heap_setCell_other wr.drew ⟨g1, j, none⟩ _ _ hno3.out.2.2.1).trans f17
            · exact (heap_setCell_other wr.drew ⟨g1, j, none⟩ _ _ hno3.out.2.2.2.1).trans f18
          case measure => simp [intOf]; omega
        · have dbr : ((r : Int) == bt) = false := by simpa using hbr
          have dbr' : decide ((r : Int) = bt) = false := by simpa using hbr
          have Hbr := Lib.hid hbr
          clear hbr
          obtain ⟨i1, i2⟩ := HI.out
          obtain ⟨hqw, hqw2⟩ := HW.out
          go_wp2_with fail
          refine wp_region_held_drew (S := (fun W' => W'.heap[ob]? = some (opo kd bt dp nn))) (by kernel_rfl) (f14) (fun hHeld => ?_)
          refine wpAnyH_take (i := 0) (v := ?_) rfl (by kernel_rfl) (by kernel_rfl) (by kernel_rfl) (fun _ _ _ h => hP.out _ _ _ _ _ h) (Or.inl ⟨by kernel_rfl, ?_⟩) hHeld ?_
          rotate_left
          · intro wq hSw
            have hSd := blk_cell hSw
            go_simp
            try rw [if_neg (by omega)]
            try rw [if_pos (by omega)]
            try with_reducible rfl
          try simp only [Act.put, List.getElem_toArray, List.getElem_cons_succ, List.getElem_cons_zero, List.setIfInBounds_toArray, List.set_cons_zero, List.set_cons_succ]
          refine wpAnyH_take (i := 1) (v := ?_) rfl (by kernel_rfl) (by kernel_rfl) (by kernel_rfl) (fun _ _ _ h => hP.out _ _ _ _ _ h) (Or.inl ⟨by kernel_rfl, ?_⟩) hHeld ?_
          rotate_left
          · intro wq hSw
            have hSd := blk_cell hSw
            go_simp
            try rw [if_neg (by omega)]
            try rw [if_pos (by omega)]
            try with_reducible rfl
          try simp only [Act.put, List.getElem_toArray, List.getElem_cons_succ, List.getElem_cons_zero, List.setIfInBounds_toArray, List.set_cons_zero, List.set_cons_succ]
          refine wpAnyH_take (i := 2) (v := ?_) rfl (by kernel_rfl) (by kernel_rfl) (by kernel_rfl) (fun _ _ _ h => hP.out _ _ _ _ _ h) (Or.inl ⟨by kernel_rfl, ?_⟩) hHeld ?_
          rotate_left
          · intro wq hSw
            have hSd := blk_cell hSw
            go_simp
            try rw [if_neg (by omega)]
            try rw [if_pos (by omega)]
            try with_reducible rfl
          try simp only [Act.put, List.getElem_toArray, List.getElem_cons_succ, List.getElem_cons_zero, List.setIfInBounds_toArray, List.set_cons_zero, List.set_cons_succ]
          refine wpAnyH_take (i := 3) (v := ?_) rfl (by kernel_rfl) (by kernel_rfl) (by kernel_rfl) (fun _ _ _ h => hP.out _ _ _ _ _ h) (Or.inl ⟨by kernel_rfl, ?_⟩) hHeld ?_
          rotate_left
          · intro wq hSw
            have hSd := blk_cell hSw
            go_simp
            try rw [if_neg (by omega)]
            try rw [if_pos (by omega)]
            try with_reducible rfl
          try simp only [Act.put, List.getElem_toArray, List.getElem_cons_succ, List.getElem_cons_zero, List.setIfInBounds_toArray, List.set_cons_zero, List.set_cons_succ]
          refine wpAnyH_take (i := 4) (v := ?_) rfl (by kernel_rfl) (by kernel_rfl) (by kernel_rfl) (fun _ _ _ h => hP.out _ _ _ _ _ h) (Or.inl ⟨by kernel_rfl, ?_⟩) hHeld ?_
          rotate_left
          · intro wq hSw
            have hSd := blk_cell hSw
            go_simp
            try rw [if_neg (by omega)]
            try rw [if_pos (by omega)]
            try with_reducible rfl
          try simp only [Act.put, List.getElem_toArray, List.getElem_cons_succ, List.getElem_cons_zero, List.setIfInBounds_toArray, List.set_cons_zero, List.set_cons_succ]
          refine wpAnyH_take (i := 5) (v := ?_) rfl (by kernel_rfl) (by kernel_rfl) (by kernel_rfl) (fun _ _ _ h => hP.out _ _ _ _ _ h) (Or.inl ⟨by kernel_rfl, ?_⟩) hHeld ?_
          rotate_left
          · intro wq hSw
            have hSd := blk_cell hSw
            go_simp
            try rw [if_neg (by omega)]
            try rw [if_pos (by omega)]
            try with_reducible rfl
          try simp only [Act.put, List.getElem_toArray, List.getElem_cons_succ, List.getElem_cons_zero, List.setIfInBounds_toArray, List.set_cons_zero, List.set_cons_succ]
          refine wpAnyH_take (i := 6) (v := ?_) rfl (by kernel_rfl) (by kernel_rfl) (by kernel_rfl) (fun _ _ _ h => hP.out _ _ _ _ _ h) (Or.inl ⟨by kernel_rfl, ?_⟩) hHeld ?_
          rotate_left
          · intro wq hSw
            have hSd := blk_cell hSw
            go_simp
            try rw [if_neg (by omega)]
            try rw [if_pos (by omega)]
            try with_reducible rfl
          try simp only [Act.put, List.getElem_toArray, List.getElem_cons_succ, List.getElem_cons_zero, List.setIfInBounds_toArray, List.set_cons_zero, List.set_cons_succ]
          refine wpAnyH_take (i := 7) (v := ?_) rfl (by kernel_rfl) (by kernel_rfl) (by kernel_rfl) (fun _ _ _ h => hP.out _ _ _ _ _ h) (Or.inl ⟨by kernel_rfl, ?_⟩) hHeld ?_
          rotate_left
          · intro wq hSw
            have hSd := blk_cell hSw
            go_simp
            try rw [if_neg (by omega)]
            try rw [if_pos (by omega)]
            try with_reducible rfl
          try simp only [Act.put, List.getElem_toArray, List.getElem_cons_succ, List.getElem_cons_zero, List.setIfInBounds_toArray, List.set_cons_zero, List.set_cons_succ]
          refine wpAnyH_take (i := 8) (v := ?_) rfl (by kernel_rfl) (by kernel_rfl) (by kernel_rfl) (fun _ _ _ h => hP.out _ _ _ _ _ h) (Or.inl ⟨by kernel_rfl, ?_⟩) hHeld ?_
          rotate_left
          · intro wq hSw
            have hSd := blk_cell hSw
            go_simp
            try rw [if_neg (by omega)]
            try rw [if_pos (by omega)]
            try with_reducible rfl
          try simp only [Act.put, List.getElem_toArray, List.getElem_cons_succ, List.getElem_cons_zero, List.setIfInBounds_toArray, List.set_cons_zero, List.set_cons_succ]
          refine wpAnyH_done (by kernel_rfl) ?_ _
          clear hHeld i1 i2 hqw hqw2
          go_wp2_with fail
          go_roundw
          case rel =>
            refine ⟨j + 1, by go_num, by omega, f9, f14, f17, f18, ?_, below_dr fbel⟩
            rw [setTo_no _ _ _ _ _ (by rw [← Hr.out]; exact Hbr.out)]
            exact Hf.out.drew
          case measure => simp [intOf]; omega
      · obtain rfl : n = j := by omega
        have hTq : Hid (T = bodyOf (setTo xs q bt nn n)) := Lib.hid (by rw [HT.out, Hq.out, ← Hn.out, Hm.out, Int.toNat_natCast])
        have hmay : Hid (∀ y ∈ setTo xs q bt nn n, mayP y) := Lib.hid (setTo_may (fun y hy => by
          rw [Hxs.out] at hy
          obtain ⟨i, hi, rfl⟩ := List.mem_map.1 hy
          exact Hno.out.may i (by simpa using hi)) H5.out)
        obtain ⟨A4, c4, hA4, hin4⟩ := ints_of_own fown
        injection hA4 with hA5 _ hA6
        subst hA5 hA6
        have hdo := refDirOf_any kk D X D (str L) _ n c1 (setTo xs q bt nn n) wr hin4 hmay.out (by omega) (by omega)
        rw [← hTq.out] at hdo
        have Hdo := Lib.hid hdo
        have c9 := blk_cell f9
        have z9 := lt_of_block f9
        have Hf := Lib.hid fown
        clear hdo hin4 fown
        go_wp2_with fail
        with_reducible refine Hdo.out.mono ?_
        rintro e w5 ⟨rfl, hb5⟩
        have z18 := blk_keep f18 hb5
        have z14 := blk_keep f14 hb5
        have z17 := blk_keep f17 hb5
        have y18 := blk_cell z18
        have y18f := blk_free z18
        have w18 := lt_of_block z18
        have hbw5 : Below B0 w w5 := fbel.trans (hb5.mono (by have := fbel.size; have := Hlt.out; omega))
        clear c9 z9 f9 f14 f17 f18 hb5
        go_wp2_with fail
        with_reducible refine hR.out _ _ _ _ _ _ _ _ _ _ _ _ _ _ _ _ _ _ _ _ _ _ _ _ _ _ _ _ _ _ _ _ _ _ _ _ _ _ _ _ _ _ _ _ _ _ _ _ _ _ _ _ _ _ _ _ _ _ _ _ _ _ _ _ _ _ _ _ _ _ _ _ _ _ _ _ _ _ _ _ 0 kk D X T _ ⟨?_, ?_, ?_, ?_⟩
        · exact hs4 z14 (by have := Hlt.out; omega)
        · exact hs4 z17 (by have := Hlt.out; omega)
        · exact set4_same z18 _ _ _ _
        · exact below_set4 hbw5 (by have := Hlt.out; omega) _ _ _ _
end Go.Proofs.YtlinolgbpnokcaaGreatDoor.Dr
