/- DirPlays: Double. (Printed by tools/gen_dp.py.) -/
import Derived.Test.YtlinolgbpnokcaaGreatDoorDirPlays0
import Derived.Deep.Cut
import Derived.Deep.CutRange
import Derived.Deep.CutBlock
import Derived.Deep.DeepCutAuto
import Derived.RegionTactic
import Derived.Deep.RegionLaw
import Derived.Deep.RegionLawGrows
import Derived.Deep.RegionHeld
namespace Go.Proofs.YtlinolgbpnokcaaGreatDoor.Dr
open Go.RowKit Go.Proofs.YtlinolgbpnokcaaGreatDoor.Mem Go.Proofs.YtlinolgbpnokcaaGreatDoor.Pg Go.Proofs.YtlinolgbpnokcaaGreatDoor.Bk
set_option linter.unusedSimpArgs false
set_option linter.unusedVariables false
set_option maxRecDepth 1000000 in
set_option maxHeartbeats 8000000 in
theorem dbl_any (w : World) (B0 pb ob qb wb : Nat) (kk D X : Int) (L : List UInt8) (kd bt dp nn : Int) (good : Bool) (xs : List Int) (hv f0 : Value) (hs : Seen kk D X L good xs) (hf0 : f0 = .int .i64 (if good = true then 0 else 2)) (hb : Rb w B0 pb ob qb wb kk D X L kd bt dp nn) (hh : Have w hv good xs) (hne : ∀ b off n c, hv = .slice (some ⟨b, off, none⟩) n c → b ≠ qb)
    (u0 u1 u2 u3 u4 u5 u6 u7 u8 u10 u11 u12 u13 u21 u22 u23 u24 u25 u26 u27 u28 u29 u30 u31 u32 u33 u34 u35 u36 u37 u38 u39 u40 u41 u42 u43 u44 u45 u46 u47 u48 u49 u50 u51 u52 u53 u54 u55 u56 u57 u58 u59 u60 u61 u62 u63 u64 u65 u66 u67 u68 u69 u70 u71 u72 u73 u74 u75 u76 u77 u78 u79 u80 u81 u82 u83 u84 u85 u86 u87 u88 u89 u90 u91 u92 u93 u94 u95 u96 u97 u98 u99 u100 u102 u103 u104 u105 u106 u107 u108 u109 u110 u111 u112 u113 u114 u115 u116 u117 u118 u119 u120 u121 u122 u123 u124 u125 u126 u127 u128 u129 u130 u131 u132 u133 u134 u135 u136 u137 u138 u139 u140 u141 u142 u143 u144 u145 u146 u147 u148 u149 u150 u151 u152 u153 u154 u155 u156 u157 u158 u159 u160 u161 u162 u163 u164 u165 u166 u167 u168 u169 u170 u171 u172 u173 u174 u175 u176 u177 u178 u179 u180 u181 u182 u183 u184 u185 u186 u187 u188 u189 u190 u191 u192 u193 u194 u195 u196 u197 u198 u199 u200 u201 u202 u203 u204 u205 u206 u207 u208 u209 u210 u211 u212 u213 u214 u215 u216 u217 u218 u219 u220 u221 u222 u223 u224 u225 u226 u227 u228 u229 u230 u231 u232 u233 u234 u235 u236 u237 u238 u239 u240 u241 u242 u243 u244 u245 u246 u247 u248 u249 u250 u251 u252 u253 u254 u255 u256 u257 u258 u259 u260 u261 u262 u263 u264 u265 u266 u267 u268 u269 u270 u271 u272 u273 u274 u275 u276 u277 u278 u279 u280 u281 u282 u283 u284 u285 u286 u287 u288 u289 u290 u291 u292 u293 u294 u295 u296 u297 u298 u299 u300 u301 u302 u303 u304 u305 u306 u307 u308 u309 u310 u311 u312 u313 u314 u315 u316 u317 u318 u319 u320 : Value) (R : Exit → Act → World → Prop) (hP : Hid (∀ c a d v w, R (.panic c) (Act.put a d v) w → R (.panic c) a w))
    (hR : Hid (∀ (v182 v183 v184 v185 v186 v187 v188 v189 v190 v191 v192 v193 v194 v195 v196 v197 v198 v199 v200 v201 v202 v203 : Value) (E k' D' X' : Int) (L' : List UInt8) (w' : World), Dn w w' B0 ob qb wb kd bt dp nn k' D' X' L' → R .normal ⟨#[u0, u1, u2, u3, u4, u5, u6, u7, u8, .pointer (some ⟨pb, 0, none⟩), u10, u11, u12, u13, .pointer (some ⟨ob, 0, none⟩), hv, .bool good, .pointer (some ⟨qb, 0, none⟩), .pointer (some ⟨wb, 0, none⟩), .int .i64 E, .int .i64 E, u21, u22, u23, u24, u25, u26, u27, u28, u29, u30, u31, u32, u33, u34, u35, u36, u37, u38, u39, u40, u41, u42, u43, u44, u45, u46, u47, u48, u49, u50, u51, u52, u53, u54, u55, u56, u57, u58, u59, u60, u61, u62, u63, u64, u65, u66, u67, u68, u69, u70, u71, u72, u73, u74, u75, u76, u77, u78, u79, u80, u81, u82, u83, u84, u85, u86, u87, u88, u89, u90, u91, u92, u93, u94, u95, u96, u97, u98, u99, u100, .int .i64 kd, u102, u103, u104, u105, u106, u107, u108, u109, u110, u111, u112, u113, u114, u115, u116, u117, u118, u119, u120, u121, u122, u123, u124, u125, u126, u127, u128, u129, u130, u131, u132, u133, u134, u135, u136, u137, u138, u139, u140, u141, u142, u143, u144, u145, u146, u147, u148, u149, u150, u151, u152, u153, u154, u155, u156, u157, u158, u159, u160, u161, u162, u163, u164, u165, u166, u167, u168, u169, u170, u171, u172, u173, u174, u175, u176, u177, u178, u179, u180, u181, v182, v183, v184, v185, v186, v187, v188, v189, v190, v191, v192, v193, v194, v195, v196, v197, v198, v199, v200, v201, v202, v203, u204, u205, u206, u207, u208, u209, u210, u211, u212, u213, u214, u215, u216, u217, u218, u219, u220, u221, u222, u223, u224, u225, u226, u227, u228, u229, u230, u231, u232, u233, u234, u235, u236, u237, u238, u239, u240, u241, u242, u243, u244, u245, u246, u247, u248, u249, u250, u251, u252, u253, u254, u255, u256, u257, u258, u259, u260, u261, u262, u263, u264, u265, u266, u267, u268, u269, u270, u271, u272, u273, u274, u275, u276, u277, u278, u279, u280, u281, u282, u283, u284, u285, u286, u287, u288, u289, u290, u291, u292, u293, u294, u295, u296, u297, u298, u299, u300, u301, u302, u303, u304, u305, u306, u307, u308, u309, u310, u311, u312, u313, u314, u315, u316, u317, u318, u319, u320], []⟩ w')) :
    Code.wp Tryz.prog cDbl R ⟨#[u0, u1, u2, u3, u4, u5, u6, u7, u8, .pointer (some ⟨pb, 0, none⟩), u10, u11, u12, u13, .pointer (some ⟨ob, 0, none⟩), hv, .bool good, .pointer (some ⟨qb, 0, none⟩), .pointer (some ⟨wb, 0, none⟩), .int .i64 0, f0, u21, u22, u23, u24, u25, u26, u27, u28, u29, u30, u31, u32, u33, u34, u35, u36, u37, u38, u39, u40, u41, u42, u43, u44, u45, u46, u47, u48, u49, u50, u51, u52, u53, u54, u55, u56, u57, u58, u59, u60, u61, u62, u63, u64, u65, u66, u67, u68, u69, u70, u71, u72, u73, u74, u75, u76, u77, u78, u79, u80, u81, u82, u83, u84, u85, u86, u87, u88, u89, u90, u91, u92, u93, u94, u95, u96, u97, u98, u99, u100, .int .i64 kd, u102, u103, u104, u105, u106, u107, u108, u109, u110, u111, u112, u113, u114, u115, u116, u117, u118, u119, u120, u121, u122, u123, u124, u125, u126, u127, u128, u129, u130, u131, u132, u133, u134, u135, u136, u137, u138, u139, u140, u141, u142, u143, u144, u145, u146, u147, u148, u149, u150, u151, u152, u153, u154, u155, u156, u157, u158, u159, u160, u161, u162, u163, u164, u165, u166, u167, u168, u169, u170, u171, u172, u173, u174, u175, u176, u177, u178, u179, u180, u181, u182, u183, u184, u185, u186, u187, u188, u189, u190, u191, u192, u193, u194, u195, u196, u197, u198, u199, u200, u201, u202, u203, u204, u205, u206, u207, u208, u209, u210, u211, u212, u213, u214, u215, u216, u217, u218, u219, u220, u221, u222, u223, u224, u225, u226, u227, u228, u229, u230, u231, u232, u233, u234, u235, u236, u237, u238, u239, u240, u241, u242, u243, u244, u245, u246, u247, u248, u249, u250, u251, u252, u253, u254, u255, u256, u257, u258, u259, u260, u261, u262, u263, u264, u265, u266, u267, u268, u269, u270, u271, u272, u273, u274, u275, u276, u277, u278, u279, u280, u281, u282, u283, u284, u285, u286, u287, u288, u289, u290, u291, u292, u293, u294, u295, u296, u297, u298, u299, u300, u301, u302, u303, u304, u305, u306, u307, u308, u309, u310, u311, u312, u313, u314, u315, u316, u317, u318, u319, u320], []⟩ w := by

  obtain ⟨p9, p14, p17, p18, hlt⟩ := hb
  have c9 := blk_cell p9
  have c14 := blk_cell p14
  have z9 := lt_of_block p9
  have z14 := lt_of_block p14
  have hB0 : B0 ≤ w.heap.size := by omega
  have hdb := Lib.hid (double_any kk D X L)
  have Hlt := Lib.hid hlt
  cases good
  · have hno := (hs.no rfl).1
    simp only [Bool.false_eq_true, if_false] at hf0
    subst hf0
    have Hno := Lib.hid hno
    clear hs hno hlt
    conv => arg 2; whnf
    go_wp2_with fail
    with_reducible refine (hdb.out _).mono ?_
    rintro e w1 ⟨⟨_, rfl⟩ | ⟨n, hd, _⟩ | ⟨n, hd, _⟩, hb1⟩
    · have x9 := blk_keep p9 hb1
      have x14 := blk_keep p14 hb1
      have x17 := blk_keep p17 hb1
      have x18 := blk_keep p18 hb1
      have y17 := blk_cell x17
      have y17f := blk_free x17
      have w17 := lt_of_block x17
      clear c9 c14 z9 z14
      go_wp2_with fail
      with_reducible refine hR.out _ _ _ _ _ _ _ _ _ _ _ _ _ _ _ _ _ _ _ _ _ _ 2 0 0 0 [] _ ⟨?_, ?_, ?_, ?_⟩
      · exact hs4 x14 (by have := Hlt.out; omega)
      · exact set4_same x17 _ _ _ _
      · exact hs4 x18 (by have := Hlt.out; omega)
      · exact below_set4 (hb1.mono hB0) (by have := Hlt.out; omega) _ _ _ _
    · exact absurd hd (Hno.out _)
    · exact absurd hd (Hno.out _)
  · simp only [if_true] at hf0
    subst hf0
    obtain ⟨hd, hxs⟩ := hs.dir rfl
    have Hno := Lib.hid hd
    have Hxs := Lib.hid hxs
    have hx32 := hs.len
    have hle := hd.le
    have hlo := hd.lo
    have hhi := hd.hi
    clear hs hd hxs hlt
    conv => arg 2; whnf
    by_cases h5 : D = 5
    · have d5 : (D == 5) = true := by simpa using h5
      have d5' : decide (D = 5) = true := by simpa using h5
      have H5 := Lib.hid h5
      clear h5
      go_wp2_with fail
      with_reducible refine (hdb.out _).mono ?_
      rintro e w1 ⟨⟨hno, _⟩ | ⟨n, hd, _, rfl⟩ | ⟨n, hd, h4, _⟩, hb1⟩
      · exact absurd Hno.out (hno _)
      · have x9 := blk_keep p9 hb1
        have x14 := blk_keep p14 hb1
        have x17 := blk_keep p17 hb1
        have x18 := blk_keep p18 hb1
        have y9 := blk_cell x9
        have y17 := blk_cell x17
        have y17f := blk_free x17
        have w9 := lt_of_block x9
        have w17 := lt_of_block x17
        have hpq : pb ≠ qb := by have := Hlt.out; omega
        have hd1 := Lib.hid hd
        clear c9 c14 z9 z14 hd
        go_wp2_with fail
        with_reducible refine hR.out _ _ _ _ _ _ _ _ _ _ _ _ _ _ _ _ _ _ _ _ _ _ 13 0 0 0 [] _ ⟨?_, ?_, ?_, ?_⟩
        · exact hs4 x14 (by have := Hlt.out; omega)
        · exact set4_same x17 _ _ _ _
        · exact hs4 x18 (by have := Hlt.out; omega)
        · exact below_set4 (hb1.mono hB0) (by have := Hlt.out; omega) _ _ _ _
      · exact absurd H5.out (by omega)
    · have d5 : (D == 5) = false := by simpa using h5
      have d5' : decide (D = 5) = false := by simpa using h5
      have H5 := Lib.hid h5
      have h4 : D ≤ 4 := by omega
      clear h5
      obtain ⟨A, c, rfl, hcap, hin, _⟩ := hh
      obtain ⟨b, off, rfl, hbl, _⟩ := hin.2.2 (by omega)
      obtain ⟨i0, hif, hz0, hz1, hz2⟩ := info_parts info_int
      go_wp2_with fail
      with_reducible refine (hdb.out _).mono ?_
      rintro e w1 ⟨⟨hno, _⟩ | ⟨n, hd, h5, _⟩ | ⟨n, hd, _, rfl⟩, hb1⟩
      · exact absurd Hno.out (hno _)
      · exact absurd h5 H5.out
      · obtain rfl : n = xs.length := isDir_same hd Hno.out
        rw [← Hxs.out]
        have x9 := blk_keep p9 hb1
        have x14 := blk_keep p14 hb1
        have x17 := blk_keep p17 hb1
        have x18 := blk_keep p18 hb1
        have y9 := blk_cell x9
        have y17 := blk_cell x17
        have y17f := blk_free x17
        have w9 := lt_of_block x9
        have w17 := lt_of_block x17
        have hpq : pb ≠ qb := by have := Hlt.out; omega
        have hin1 := Lib.hid (hin.below hb1)
        have hbq : b ≠ qb := hne _ _ _ _ rfl
        have hbl1 : b < w1.heap.size := Nat.lt_of_lt_of_le hbl hb1.size
        have i1 : IntKind.i64.wrap (D + 1) = D + 1 := IntWalk.i64_in _ (by omega)
        have h16 : xs.length ≤ 16 := dir_16 Hno.out h4
        have hmay : Hid (∀ y ∈ xs ++ xs, mayP y) := Lib.hid fun y hy => by
          have hy : y ∈ xs := by simpa using hy
          rw [Hxs.out] at hy
          obtain ⟨i, hi, rfl⟩ := List.mem_map.1 hy
          exact Hno.out.may i (by simpa using hi)
        clear c9 c14 z9 z14 hd hin
        go_wp2_with fail
        obtain ⟨w2, hw2⟩ : ∃ w2, w2 = set4 w1 qb (.int .i64 kk) (.int .i64 (D + 1)) (.int .i64 X) (.string (str (bodyOf (xs ++ xs)))) := ⟨_, rfl⟩
        refine wp_world hw2 ?_
        have v9 : w2.heap[pb]? = some (pgo kk D X (str L)) := by rw [hw2]; exact hs4 x9 hpq
        have v14 : w2.heap[ob]? = some (opo kd bt dp nn) := by rw [hw2]; exact hs4 x14 (by have := Hlt.out; omega)
        have v17 : w2.heap[qb]? = some (pgo kk (D + 1) X (str (bodyOf (xs ++ xs)))) := by rw [hw2]; exact set4_same x17 _ _ _ _
        have v18 : w2.heap[wb]? = some (pgo 0 0 0 ⟨#[]⟩) := by rw [hw2]; exact hs4 x18 (by have := Hlt.out; omega)
        have vb : Hid (Below B0 w w2) := Lib.hid (by rw [hw2]; exact below_set4 (hb1.mono hB0) (by have := Hlt.out; omega) _ _ _ _)
        have hin2 : Ints w2 (some ⟨b, off, none⟩) xs.length xs := by
          refine ⟨hin1.out.1, hin1.out.2.1, fun h0 => ?_⟩
          obtain ⟨b', off', hA, hl, hc⟩ := hin1.out.2.2 h0
          refine ⟨b', off', hA, by rw [hw2, set4_size]; exact hl, fun j hj => ?_⟩
          injection hA with hA
          injection hA with h1 h2 _
          rw [← hc j hj, hw2]
          exact cell_set4 (show b' ≠ qb from h1 ▸ hbq) _
        have hbl2 : b < w2.heap.size := by rw [hw2, set4_size]; exact hbl1
        have hone := ints_one xs
        have hnews2 := Lib.hid (ints_news (hin2.below (below_dr (Below.refl _ w2))))
        have Hin2 := Lib.hid hin2
        obtain ⟨n, hn⟩ : ∃ n, n = xs.length := ⟨_, rfl⟩
        have hnl : (ints xs).length = n * 1 := by simp [ints, hn]
        rw [← hn] at Hin2 hx32 hle h16 ⊢
        have Hn := Lib.hid hn
        clear x9 x14 x17 x18 y9 y17 y17f w9 w17 hin1 hbl1 hin2 hn hb1 hw2 p9 p14 p17 p18
        refine wp_region_held_drew (S := (fun W' => W'.heap[pb]? = some (pgo kk D X (str L)))) (by kernel_rfl) (v9) (fun hHeld => ?_)
        refine wpAnyH_take (i := 0) (v := ?_) rfl (by kernel_rfl) (by kernel_rfl) (by kernel_rfl) (fun _ _ _ h => hP.out _ _ _ _ _ h) (Or.inl ⟨by kernel_rfl, ?_⟩) hHeld ?_
        rotate_left
        · intro wq hSw
          have hSc := blk_cell hSw
          go_simp
          try rw [if_neg (by omega)]
          try rw [if_pos (by omega)]
          try with_reducible rfl
        try simp only [Act.put, List.getElem_toArray, List.getElem_cons_succ, List.getElem_cons_zero, List.setIfInBounds_toArray, List.set_cons_zero, List.set_cons_succ]
        refine wpAnyH_take (i := 1) (v := ?_) rfl (by kernel_rfl) (by kernel_rfl) (by kernel_rfl) (fun _ _ _ h => hP.out _ _ _ _ _ h) (Or.inl ⟨by kernel_rfl, ?_⟩) hHeld ?_
        rotate_left
        · intro wq hSw
          have hSc := blk_cell hSw
          go_simp
          try rw [if_neg (by omega)]
          try rw [if_pos (by omega)]
          try with_reducible rfl
        try simp only [Act.put, List.getElem_toArray, List.getElem_cons_succ, List.getElem_cons_zero, List.setIfInBounds_toArray, List.set_cons_zero, List.set_cons_succ]
        refine wpAnyH_take (i := 2) (v := ?_) rfl (by kernel_rfl) (by kernel_rfl) (by kernel_rfl) (fun _ _ _ h => hP.out _ _ _ _ _ h) (Or.inl ⟨by kernel_rfl, ?_⟩) hHeld ?_
        rotate_left
        · intro wq hSw
          have hSc := blk_cell hSw
          go_simp
          try rw [if_neg (by omega)]
          try rw [if_pos (by omega)]
          try with_reducible rfl
        try simp only [Act.put, List.getElem_toArray, List.getElem_cons_succ, List.getElem_cons_zero, List.setIfInBounds_toArray, List.set_cons_zero, List.set_cons_succ]
        refine wpAnyH_take (i := 3) (v := ?_) rfl (by kernel_rfl) (by kernel_rfl) (by kernel_rfl) (fun _ _ _ h => hP.out _ _ _ _ _ h) (Or.inl ⟨by kernel_rfl, ?_⟩) hHeld ?_
        rotate_left
        · intro wq hSw
          have hSc := blk_cell hSw
          go_simp
          try rw [if_neg (by omega)]
          try rw [if_pos (by omega)]
          try with_reducible rfl
        try simp only [Act.put, List.getElem_toArray, List.getElem_cons_succ, List.getElem_cons_zero, List.setIfInBounds_toArray, List.set_cons_zero, List.set_cons_succ]
        refine wpAnyH_take (i := 4) (v := ?_) rfl (by kernel_rfl) (by kernel_rfl) (by kernel_rfl) (fun _ _ _ h => hP.out _ _ _ _ _ h) (Or.inl ⟨by kernel_rfl, ?_⟩) hHeld ?_
        rotate_left
        · intro wq hSw
          have hSc := blk_cell hSw
          go_simp
          try rw [if_neg (by omega)]
          try rw [if_pos (by omega)]
          try with_reducible rfl
        try simp only [Act.put, List.getElem_toArray, List.getElem_cons_succ, List.getElem_cons_zero, List.setIfInBounds_toArray, List.set_cons_zero, List.set_cons_succ]
        refine wpAnyH_take (i := 6) (v := ?_) rfl (by kernel_rfl) (by kernel_rfl) (by kernel_rfl) (fun _ _ _ h => hP.out _ _ _ _ _ h) (Or.inl ⟨by kernel_rfl, ?_⟩) hHeld ?_
        rotate_left
        · intro wq hSw
          have hSc := blk_cell hSw
          go_simp
          try rw [if_neg (by omega)]
          try rw [if_pos (by omega)]
          try with_reducible rfl
        try simp only [Act.put, List.getElem_toArray, List.getElem_cons_succ, List.getElem_cons_zero, List.setIfInBounds_toArray, List.set_cons_zero, List.set_cons_succ]
        refine wpAnyH_ready (rs := [5]) (by kernel_rfl) (by simp) ?_
        refine AllReadyH.cons rfl (fun K hK => ?_) AllReadyH.nil
        refine step_append_lies _ (by rfl) _ _ _ (by rfl) w2.drew.heap.size 3 i0 (.int .i64 0) 1 8 Tryz.underlying29 hif hz0 hz1 hz2 rfl (by decide) nl 0 [] (by rfl) (World.ownsRow_nil _ _ _ _) ⟨b, off, none⟩ n c (ints xs) (by rfl) hnl hnews2.out hone (by omega) (by unfold maxLen; omega) (by omega) (Nat.le_refl _) _ rfl ?_
        intro g1 c1 w3 ho1 hg1 hat1 hl1
        simp only [Nat.zero_add, List.nil_append] at ho1 ⊢
        refine hK.out _ _ (blk_grown hHeld hg1 (by simp [Value.ownBlock])) (fun hHeld2 => ?_)
        clear hK K
        try clear hHeld
        have hHeld := hHeld2
        try clear hHeld2
        refine wpAnyH_ready (rs := [7]) (by kernel_rfl) (by simp) ?_
        refine AllReadyH.cons rfl (fun K hK => ?_) AllReadyH.nil
        have hbw3 : Below w2.heap.size w2 w3 := below_grown (w := w2) (a := w2.drew) (below_dr (Below.refl _ w2)) (Nat.le_refl _) (World.ownsRow_nil w2 w2.heap.size 3 1) hg1
        have hnews3 := ints_news (Hin2.out.below hbw3)
        refine step_append_lies _ (by rfl) _ _ _ (by rfl) w2.heap.size 3 i0 (.int .i64 0) 1 8 Tryz.underlying29 hif hz0 hz1 hz2 rfl (by decide) (.slice (some ⟨g1, 0, none⟩) n c1) n (ints xs) (by rfl) ho1 ⟨b, off, none⟩ n c (ints xs) (by rfl) hnl hnews3 hone (by omega) (by unfold maxLen; omega) (by omega) hbw3.size _ rfl ?_
        intro g2 c2 w4 ho2 hg2 hat2 hl2
        refine hK.out _ _ (blk_grown hHeld hg2 (fun h => by rcases hat1 with h1 | h1 <;> simp [Value.ownBlock] at h h1; have := lt_of_block v9; omega)) (fun hHeld2 => ?_)
        clear hK K
        try clear hHeld
        have hHeld := hHeld2
        try clear hHeld2
        refine wpAnyH_ready (rs := [8]) (by kernel_rfl) (by simp) ?_
        refine AllReadyH.cons rfl (fun K hK => ?_) AllReadyH.nil
        rw [if_pos (by kernel_rfl)]
        go_simp
        have hbw4 : Below w2.heap.size w2 w4 := below_grown hbw3 hbw3.size ho1 hg2
        have hr4 : w4.ownsRow w2.heap.size 3 1 (.slice (some ⟨g2, 0, none⟩) (n + n) c2) (n + n) (ints (xs ++ xs)) := by rw [show ints (xs ++ xs) = ints xs ++ ints xs by simp [ints]]; exact ho2
        obtain ⟨A4, c4, hA4, hin4⟩ := ints_of_own hr4
        injection hA4 with e1 _ e3
        subst e1 e3
        with_reducible refine (refDirOf_any kk D X (D + 1) (str L) _ (n + n) c2 (xs ++ xs) _ hin4 hmay.out (by omega) (by omega)).mono ?_
        rintro e w5 ⟨rfl, hb5⟩
        have hbw5 := hbw4.trans (hb5.mono hbw4.size)
        have z18 := blk_keep v18 hbw5
        have z14 := blk_keep v14 hbw5
        have z17 := blk_keep v17 hbw5
        have y18 := blk_cell z18
        have y18f := blk_free z18
        have w18 := lt_of_block z18
        go_simp
        refine hK.out _ _ (blk_keep hHeld hb5) (fun hHeld2 => ?_)
        clear hK K
        try clear hHeld
        have hHeld := hHeld2
        try clear hHeld2
        refine wpAnyH_ready (rs := [9]) (by kernel_rfl) (by simp) ?_
        refine AllReadyH.cons rfl (fun K hK => ?_) AllReadyH.nil
        rw [if_pos (by kernel_rfl)]
        go_simp
        refine hK.out _ _ (hs4 hHeld (by have := Hlt.out; omega)) (fun hHeld2 => ?_)
        clear hK K
        try clear hHeld
        have hHeld := hHeld2
        try clear hHeld2
        refine wpAnyH_done (by kernel_rfl) ?_ _
        obtain rfl : n = xs.length := Hn.out
        with_reducible refine hR.out _ _ _ _ _ _ _ _ _ _ _ _ _ _ _ _ _ _ _ _ _ _ 0 kk (D + 1) X (bodyOf (xs ++ xs)) _ ⟨?_, ?_, ?_, ?_⟩
        · exact hs4 z14 (by have := Hlt.out; omega)
        · exact hs4 z17 (by have := Hlt.out; omega)
        · exact set4_same z18 _ _ _ _
        · exact below_set4 (vb.out.trans (hbw5.mono (by have := vb.out.size; have := Hlt.out; omega))) (by have := Hlt.out; omega) _ _ _ _
end Go.Proofs.YtlinolgbpnokcaaGreatDoor.Dr
