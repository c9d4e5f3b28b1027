/- SpacePlays: Take. (Printed by tools/gen_sp.py.) -/
import Derived.Test.YtgafmbdledpblaaDoorSpacePlays0
import Derived.Deep.Cut
import Derived.Deep.CutRange
import Derived.Deep.CutBlock
import Derived.Deep.DeepCutAuto
import Derived.RegionTactic
namespace Go.Proofs.YtgafmbdledpblaaDoor.Sp
open Go.RowKit Go.Proofs.YtgafmbdledpblaaDoor.Mem Go.Proofs.YtgafmbdledpblaaDoor.Pg
set_option linter.unusedSimpArgs false
set_option linter.unusedVariables false
set_option maxRecDepth 1000000 in
set_option maxHeartbeats 8000000 in
theorem take_no (w : World) (B0 pb ob : Nat) (k D X : Int) (L : List UInt8) (kd nn : Int) (m : Nat) (hm : pagesF k L = m) (hl : L.length ≤ 300) (hb : Rb w B0 pb ob k D X L kd nn) (h0 : m = 0)
    (u0 u1 u2 u3 u4 u5 u6 u7 u8 u10 u11 u12 u15 u16 u17 u18 u19 u20 u21 u22 u23 u24 u25 u26 u27 u28 u29 u30 u31 u32 u33 u34 u35 u36 u37 u38 u39 u40 u41 u42 u43 u44 u45 u46 u47 u48 u49 u50 u51 u52 u53 u54 u55 u56 u57 u58 u59 u60 u61 u62 u63 u64 u65 u66 u67 u68 u69 u70 u71 u72 u73 u74 u75 u76 u77 u78 u79 u80 u81 u82 u83 u84 u85 u86 u87 u88 u89 u90 u91 u92 u93 u94 u95 u96 u97 u98 u99 u100 u101 u102 u103 u104 u105 u106 u107 u108 u109 u110 u111 u112 u113 u114 u115 u116 u117 u118 u119 u120 u121 u122 u123 u124 u125 u126 u127 u128 u129 u130 u131 u132 u133 u134 u135 u136 u137 u138 u139 u140 u141 u142 u143 u144 u145 u146 u147 u148 u149 u150 u151 u152 u153 u154 u155 u156 u157 u158 u159 u160 u161 u162 u163 u164 u165 u166 u167 u168 u169 u170 u171 u172 u173 u174 u175 u176 u177 u178 u179 u180 u181 u182 u183 u184 u185 u186 u187 u188 u189 u190 u191 u192 u193 u194 u195 u196 u197 u198 u199 u200 u201 u202 u203 u204 u205 u206 u207 u208 u209 u210 u211 u212 u213 u214 u215 u216 u217 u218 u219 u220 u221 u222 u223 u224 u225 u226 u227 u228 u229 u230 u231 u232 u233 u234 u235 u236 u237 u238 u239 u240 u241 u242 u243 u244 u245 u246 u247 u248 u249 u250 u251 : Value) (R : Exit → Act → World → Prop) (hP : Hid (∀ c a d v w, R (.panic c) (Act.put a d v) w → R (.panic c) a w))
    (hR : Hid (∀ (v8 v15 v16 v17 v18 v19 v93 v94 v95 v96 v97 v98 v99 v100 v101 v102 v103 v104 v105 v106 v107 v108 v109 v110 v111 v112 v113 v114 v115 v116 v117 v118 v119 v120 v121 v122 v123 v124 v125 v126 v127 v128 v129 v130 v131 v132 v133 v134 v135 v136 v137 v138 v139 v140 v141 v142 v143 v144 v145 v146 v147 v148 v149 v150 v151 v152 v153 v154 v155 v156 : Value) (L' : List UInt8) (w' : World), L'.length = L.length → Rb w' B0 pb ob k D X L' kd nn → Below B0 w w' → R .normal ⟨#[u0, u1, u2, u3, u4, u5, u6, u7, v8, .pointer (some ⟨pb, 0, none⟩), u10, u11, u12, .pointer (some ⟨ob, 0, none⟩), .int .i64 m, v15, v16, v17, v18, v19, u20, u21, u22, u23, u24, u25, u26, u27, u28, u29, u30, u31, u32, u33, u34, u35, u36, u37, u38, u39, u40, u41, u42, u43, u44, u45, u46, u47, u48, u49, u50, u51, u52, u53, u54, u55, u56, u57, u58, u59, u60, u61, u62, u63, u64, u65, u66, u67, u68, u69, u70, u71, u72, u73, u74, u75, u76, u77, u78, u79, u80, u81, u82, u83, u84, u85, u86, u87, u88, u89, u90, u91, u92, v93, v94, v95, v96, v97, v98, v99, v100, v101, v102, v103, v104, v105, v106, v107, v108, v109, v110, v111, v112, v113, v114, v115, v116, v117, v118, v119, v120, v121, v122, v123, v124, v125, v126, v127, v128, v129, v130, v131, v132, v133, v134, v135, v136, v137, v138, v139, v140, v141, v142, v143, v144, v145, v146, v147, v148, v149, v150, v151, v152, v153, v154, v155, v156, u157, u158, u159, u160, u161, u162, u163, u164, u165, u166, u167, u168, u169, u170, u171, u172, u173, u174, u175, u176, u177, u178, u179, u180, u181, u182, u183, u184, u185, u186, u187, u188, u189, u190, u191, u192, u193, u194, u195, u196, u197, u198, u199, u200, u201, u202, u203, u204, u205, u206, u207, u208, u209, u210, u211, u212, u213, u214, u215, u216, u217, u218, u219, u220, u221, u222, u223, u224, u225, u226, u227, u228, u229, u230, u231, u232, u233, u234, u235, u236, u237, u238, u239, u240, u241, u242, u243, u244, u245, u246, u247, u248, u249, u250, u251], []⟩ w')) :
    Code.wp Tryd.prog cTake R ⟨#[u0, u1, u2, u3, u4, u5, u6, u7, u8, .pointer (some ⟨pb, 0, none⟩), u10, u11, u12, .pointer (some ⟨ob, 0, none⟩), .int .i64 m, u15, u16, u17, u18, u19, u20, u21, u22, u23, u24, u25, u26, u27, u28, u29, u30, u31, u32, u33, u34, u35, u36, u37, u38, u39, u40, u41, u42, u43, u44, u45, u46, u47, u48, u49, u50, u51, u52, u53, u54, u55, u56, u57, u58, u59, u60, u61, u62, u63, u64, u65, u66, u67, u68, u69, u70, u71, u72, u73, u74, u75, u76, u77, u78, u79, u80, u81, u82, u83, u84, u85, u86, u87, u88, u89, u90, u91, u92, u93, u94, u95, u96, u97, u98, u99, u100, u101, u102, u103, u104, u105, u106, u107, u108, u109, u110, u111, u112, u113, u114, u115, u116, u117, u118, u119, u120, u121, u122, u123, u124, u125, u126, u127, u128, u129, u130, u131, u132, u133, u134, u135, u136, u137, u138, u139, u140, u141, u142, u143, u144, u145, u146, u147, u148, u149, u150, u151, u152, u153, u154, u155, u156, u157, u158, u159, u160, u161, u162, u163, u164, u165, u166, u167, u168, u169, u170, u171, u172, u173, u174, u175, u176, u177, u178, u179, u180, u181, u182, u183, u184, u185, u186, u187, u188, u189, u190, u191, u192, u193, u194, u195, u196, u197, u198, u199, u200, u201, u202, u203, u204, u205, u206, u207, u208, u209, u210, u211, u212, u213, u214, u215, u216, u217, u218, u219, u220, u221, u222, u223, u224, u225, u226, u227, u228, u229, u230, u231, u232, u233, u234, u235, u236, u237, u238, u239, u240, u241, u242, u243, u244, u245, u246, u247, u248, u249, u250, u251], []⟩ w := by
  obtain ⟨p9, p13, hlt⟩ := hb
  have c9 := blk_cell p9
  have c13 := blk_cell p13
  have z9 := lt_of_block p9
  have z13 := lt_of_block p13
  have hB0 : B0 ≤ w.heap.size := by omega
  have Hlt := Lib.hid hlt
  have Hm := Lib.hid hm
  have hml : m ≤ L.length := by have := pagesF_le_len k L; omega
  have hm64 : m ≤ 64 := by have := pagesF_le k L; omega
  obtain ⟨S, hS⟩ : ∃ S, S = str L := ⟨_, rfl⟩
  have hss : S.size = L.length := by rw [hS, str_size]
  have hbt : ∀ (i : Nat) (h : i < S.size), ((S[i]'h).toNat : Int) = bt L i := by rw [hS]; exact str_bt L
  have hmS : m ≤ S.size := by omega
  have Hbt := Lib.hid hbt
  have Hss := Lib.hid hss
  have htk := fun w => take_form k D X L w (by omega) (by omega)
  rw [← hS] at htk
  have d0 : ((m : Int) == 0) = true := by simp; omega
  have d0' : decide (m = 0) = true := by simp; omega
  have H0 := Lib.hid h0
  clear h0
  rw [← hS] at p9 c9
  have HS := Lib.hid hS
  clear hS hss hbt hm hlt hl
  conv => arg 2; whnf
  go_wp2_with fail
  with_reducible refine (htk _).mono ?_
  rintro e w1 ⟨rfl, hb1⟩
  have q9 : (w1.alloc (.cells #[.int .i64 0, .int .i64 0, .int .i64 0, .string ⟨#[]⟩] 23)).heap[pb]? = some (pgo k D X S) := hal (blk_keep p9 hb1)
  have q13 : (w1.alloc (.cells #[.int .i64 0, .int .i64 0, .int .i64 0, .string ⟨#[]⟩] 23)).heap[ob]? = some (opo kd nn) := hal (blk_keep p13 hb1)
  have q15 : (w1.alloc (.cells #[.int .i64 0, .int .i64 0, .int .i64 0, .string ⟨#[]⟩] 23)).heap[w1.heap.size]? = some (.cells #[.int .i64 0, .int .i64 0, .int .i64 0, .string ⟨#[]⟩] 23) := heap_alloc_new w1 _
  have qb : Below B0 w (w1.alloc (.cells #[.int .i64 0, .int .i64 0, .int .i64 0, .string ⟨#[]⟩] 23)) := (hb1.mono hB0).alloc (Nat.le_trans hB0 hb1.size) _
  have how : ob < w1.heap.size := lt_of_block (blk_keep p13 hb1)
  clear c9 c13 z9 z13 p9 p13 hb1
  go_wp2_with fail
  go_loopw [18, 19] (fun u i wr => ∃ (j : Nat) (g : Int), u = .int .i64 g ∧ i = .int .i64 j ∧ j ≤ m ∧ Hid (FirstAt L j g) ∧ wr.heap[pb]? = some (pgo k D X S) ∧ wr.heap[ob]? = some (opo kd nn) ∧ wr.heap[w1.heap.size]? = some (.cells #[.int .i64 0, .int .i64 0, .int .i64 0, .string ⟨#[]⟩] 23) ∧ Below B0 w wr) (fun _ i _ => m - (intOf i).toNat)
  case atStart => exact ⟨0, -1, rfl, rfl, Nat.zero_le _, Lib.hid (.inl ⟨rfl, fun i hi => absurd hi (by omega)⟩), q9, q13, q15, qb⟩
  case round =>
    clear q9 q13 q15 qb
    obtain ⟨j, g, rfl, rfl, hj, hf, q9, q13, q15, qb⟩ := hrel
    have e9 := blk_cell q9
    have y9 := lt_of_block q9
    rcases hf.out with ⟨hg, hno⟩ | ⟨t, hg, htj, h2, hno⟩
    · have Hno := Lib.hid hno
      have dg : decide (g < 0) = true := by simp; omega
      have Hg := Lib.hid hg
      clear hf hno hg
      by_cases hlt : j < m
      · exact absurd hlt (by have := H0.out; omega)
      · have d1 : decide ((j : Int) < (m : Int)) = false := by simpa using hlt
        have d2 : decide (j < m) = false := by simpa using hlt
        have hjm : j = m := by omega
        have x15 := blk_cell q15
        have y15 := lt_of_block q15
        go_wp2_with fail
        with_reducible refine hR.out _ _ _ _ _ _ _ _ _ _ _ _ _ _ _ _ _ _ _ _ _ _ _ _ _ _ _ _ _ _ _ _ _ _ _ _ _ _ _ _ _ _ _ _ _ _ _ _ _ _ _ _ _ _ _ _ _ _ _ _ _ _ _ _ _ _ _ _ _ _ L _ rfl ⟨by rw [← HS.out]; exact q9, q13, by have := Hlt.out; have := lt_of_block q13; omega⟩ qb
    · have Hno := Lib.hid hno
      have H2 := Lib.hid h2
      have hgt : ¬ g < 0 := by omega
      have dg : decide (g < 0) = false := by simp; omega
      have x15 := blk_cell q15
      have y15 := lt_of_block q15
      clear hf hno h2
      by_cases hlt : j < m
      · have d1 : decide ((j : Int) < (m : Int)) = true := by simpa using hlt
        have d2 : decide (j < m) = true := by simpa using hlt
        exfalso
        have := H0.out
        omega
      · have d1 : decide ((j : Int) < (m : Int)) = false := by simpa using hlt
        have d2 : decide (j < m) = false := by simpa using hlt
        exfalso
        have := H0.out
        omega
set_option maxRecDepth 1000000 in
set_option maxHeartbeats 8000000 in
theorem take_disk' (w : World) (B0 pb ob : Nat) (k D X : Int) (L : List UInt8) (kd nn : Int) (m : Nat) (hm : pagesF k L = m) (hl : L.length ≤ 300) (hb : Rb w B0 pb ob k D X L kd nn) (h0 : m ≠ 0) (ht : takeI k L < 0)
    (u0 u1 u2 u3 u4 u5 u6 u7 u8 u10 u11 u12 u15 u16 u17 u18 u19 u20 u21 u22 u23 u24 u25 u26 u27 u28 u29 u30 u31 u32 u33 u34 u35 u36 u37 u38 u39 u40 u41 u42 u43 u44 u45 u46 u47 u48 u49 u50 u51 u52 u53 u54 u55 u56 u57 u58 u59 u60 u61 u62 u63 u64 u65 u66 u67 u68 u69 u70 u71 u72 u73 u74 u75 u76 u77 u78 u79 u80 u81 u82 u83 u84 u85 u86 u87 u88 u89 u90 u91 u92 u93 u94 u95 u96 u97 u98 u99 u100 u101 u102 u103 u104 u105 u106 u107 u108 u109 u110 u111 u112 u113 u114 u115 u116 u117 u118 u119 u120 u121 u122 u123 u124 u125 u126 u127 u128 u129 u130 u131 u132 u133 u134 u135 u136 u137 u138 u139 u140 u141 u142 u143 u144 u145 u146 u147 u148 u149 u150 u151 u152 u153 u154 u155 u156 u157 u158 u159 u160 u161 u162 u163 u164 u165 u166 u167 u168 u169 u170 u171 u172 u173 u174 u175 u176 u177 u178 u179 u180 u181 u182 u183 u184 u185 u186 u187 u188 u189 u190 u191 u192 u193 u194 u195 u196 u197 u198 u199 u200 u201 u202 u203 u204 u205 u206 u207 u208 u209 u210 u211 u212 u213 u214 u215 u216 u217 u218 u219 u220 u221 u222 u223 u224 u225 u226 u227 u228 u229 u230 u231 u232 u233 u234 u235 u236 u237 u238 u239 u240 u241 u242 u243 u244 u245 u246 u247 u248 u249 u250 u251 : Value) (R : Exit → Act → World → Prop) (hP : Hid (∀ c a d v w, R (.panic c) (Act.put a d v) w → R (.panic c) a w))
    (hR : Hid (∀ (v8 v15 v16 v17 v18 v19 v93 v94 v95 v96 v97 v98 v99 v100 v101 v102 v103 v104 v105 v106 v107 v108 v109 v110 v111 v112 v113 v114 v115 v116 v117 v118 v119 v120 v121 v122 v123 v124 v125 v126 v127 v128 v129 v130 v131 v132 v133 v134 v135 v136 v137 v138 v139 v140 v141 v142 v143 v144 v145 v146 v147 v148 v149 v150 v151 v152 v153 v154 v155 v156 : Value) (L' : List UInt8) (w' : World), L'.length = L.length → Rb w' B0 pb ob k D X L' kd nn → Below B0 w w' → R .normal ⟨#[u0, u1, u2, u3, u4, u5, u6, u7, v8, .pointer (some ⟨pb, 0, none⟩), u10, u11, u12, .pointer (some ⟨ob, 0, none⟩), .int .i64 m, v15, v16, v17, v18, v19, u20, u21, u22, u23, u24, u25, u26, u27, u28, u29, u30, u31, u32, u33, u34, u35, u36, u37, u38, u39, u40, u41, u42, u43, u44, u45, u46, u47, u48, u49, u50, u51, u52, u53, u54, u55, u56, u57, u58, u59, u60, u61, u62, u63, u64, u65, u66, u67, u68, u69, u70, u71, u72, u73, u74, u75, u76, u77, u78, u79, u80, u81, u82, u83, u84, u85, u86, u87, u88, u89, u90, u91, u92, v93, v94, v95, v96, v97, v98, v99, v100, v101, v102, v103, v104, v105, v106, v107, v108, v109, v110, v111, v112, v113, v114, v115, v116, v117, v118, v119, v120, v121, v122, v123, v124, v125, v126, v127, v128, v129, v130, v131, v132, v133, v134, v135, v136, v137, v138, v139, v140, v141, v142, v143, v144, v145, v146, v147, v148, v149, v150, v151, v152, v153, v154, v155, v156, u157, u158, u159, u160, u161, u162, u163, u164, u165, u166, u167, u168, u169, u170, u171, u172, u173, u174, u175, u176, u177, u178, u179, u180, u181, u182, u183, u184, u185, u186, u187, u188, u189, u190, u191, u192, u193, u194, u195, u196, u197, u198, u199, u200, u201, u202, u203, u204, u205, u206, u207, u208, u209, u210, u211, u212, u213, u214, u215, u216, u217, u218, u219, u220, u221, u222, u223, u224, u225, u226, u227, u228, u229, u230, u231, u232, u233, u234, u235, u236, u237, u238, u239, u240, u241, u242, u243, u244, u245, u246, u247, u248, u249, u250, u251], []⟩ w')) :
    Code.wp Tryd.prog cTake R ⟨#[u0, u1, u2, u3, u4, u5, u6, u7, u8, .pointer (some ⟨pb, 0, none⟩), u10, u11, u12, .pointer (some ⟨ob, 0, none⟩), .int .i64 m, u15, u16, u17, u18, u19, u20, u21, u22, u23, u24, u25, u26, u27, u28, u29, u30, u31, u32, u33, u34, u35, u36, u37, u38, u39, u40, u41, u42, u43, u44, u45, u46, u47, u48, u49, u50, u51, u52, u53, u54, u55, u56, u57, u58, u59, u60, u61, u62, u63, u64, u65, u66, u67, u68, u69, u70, u71, u72, u73, u74, u75, u76, u77, u78, u79, u80, u81, u82, u83, u84, u85, u86, u87, u88, u89, u90, u91, u92, u93, u94, u95, u96, u97, u98, u99, u100, u101, u102, u103, u104, u105, u106, u107, u108, u109, u110, u111, u112, u113, u114, u115, u116, u117, u118, u119, u120, u121, u122, u123, u124, u125, u126, u127, u128, u129, u130, u131, u132, u133, u134, u135, u136, u137, u138, u139, u140, u141, u142, u143, u144, u145, u146, u147, u148, u149, u150, u151, u152, u153, u154, u155, u156, u157, u158, u159, u160, u161, u162, u163, u164, u165, u166, u167, u168, u169, u170, u171, u172, u173, u174, u175, u176, u177, u178, u179, u180, u181, u182, u183, u184, u185, u186, u187, u188, u189, u190, u191, u192, u193, u194, u195, u196, u197, u198, u199, u200, u201, u202, u203, u204, u205, u206, u207, u208, u209, u210, u211, u212, u213, u214, u215, u216, u217, u218, u219, u220, u221, u222, u223, u224, u225, u226, u227, u228, u229, u230, u231, u232, u233, u234, u235, u236, u237, u238, u239, u240, u241, u242, u243, u244, u245, u246, u247, u248, u249, u250, u251], []⟩ w := by
  obtain ⟨p9, p13, hlt⟩ := hb
  have c9 := blk_cell p9
  have c13 := blk_cell p13
  have z9 := lt_of_block p9
  have z13 := lt_of_block p13
  have hB0 : B0 ≤ w.heap.size := by omega
  have Hlt := Lib.hid hlt
  have Hm := Lib.hid hm
  have hml : m ≤ L.length := by have := pagesF_le_len k L; omega
  have hm64 : m ≤ 64 := by have := pagesF_le k L; omega
  obtain ⟨S, hS⟩ : ∃ S, S = str L := ⟨_, rfl⟩
  have hss : S.size = L.length := by rw [hS, str_size]
  have hbt : ∀ (i : Nat) (h : i < S.size), ((S[i]'h).toNat : Int) = bt L i := by rw [hS]; exact str_bt L
  have hmS : m ≤ S.size := by omega
  have Hbt := Lib.hid hbt
  have Hss := Lib.hid hss
  have hk := map_pagesF (k := k) (l := L) (by omega)
  obtain ⟨rfl, hmap⟩ := hk
  rw [hm] at hmap
  have htk := fun w => take_disk 2 D X L w (by omega) (by omega) (by omega)
  rw [← hS] at htk
  have Hall : Hid (∀ i, i < m → bt L i ≠ 2) := Lib.hid fun i hi h2 => by
    rcases takeI_map hmap with ⟨_, h⟩ | ⟨i, h, _⟩
    · rw [h i hi] at h2; simp at h2
    · omega
  have d0 : ((m : Int) == 0) = false := by simp; omega
  have d0' : decide (m = 0) = false := by simp; omega
  clear hmap ht
  rw [← hS] at p9 c9
  have HS := Lib.hid hS
  clear hS hss hbt hm hlt hl
  conv => arg 2; whnf
  go_wp2_with fail
  with_reducible refine (htk _).mono ?_
  rintro e w1 ⟨rfl, hb1⟩
  have q9 : (w1.alloc (.cells #[.int .i64 0, .int .i64 0, .int .i64 0, .string ⟨#[]⟩] 23)).heap[pb]? = some (pgo 2 D X S) := hal (blk_keep p9 hb1)
  have q13 : (w1.alloc (.cells #[.int .i64 0, .int .i64 0, .int .i64 0, .string ⟨#[]⟩] 23)).heap[ob]? = some (opo kd nn) := hal (blk_keep p13 hb1)
  have q15 : (w1.alloc (.cells #[.int .i64 0, .int .i64 0, .int .i64 0, .string ⟨#[]⟩] 23)).heap[w1.heap.size]? = some (.cells #[.int .i64 0, .int .i64 0, .int .i64 0, .string ⟨#[]⟩] 23) := heap_alloc_new w1 _
  have qb : Below B0 w (w1.alloc (.cells #[.int .i64 0, .int .i64 0, .int .i64 0, .string ⟨#[]⟩] 23)) := (hb1.mono hB0).alloc (Nat.le_trans hB0 hb1.size) _
  have how : ob < w1.heap.size := lt_of_block (blk_keep p13 hb1)
  clear c9 c13 z9 z13 p9 p13 hb1
  go_wp2_with fail
  go_loopw [18, 19] (fun u i wr => ∃ (j : Nat) (g : Int), u = .int .i64 g ∧ i = .int .i64 j ∧ j ≤ m ∧ Hid (FirstAt L j g) ∧ wr.heap[pb]? = some (pgo 2 D X S) ∧ wr.heap[ob]? = some (opo kd nn) ∧ wr.heap[w1.heap.size]? = some (.cells #[.int .i64 0, .int .i64 0, .int .i64 0, .string ⟨#[]⟩] 23) ∧ Below B0 w wr) (fun _ i _ => m - (intOf i).toNat)
  case atStart => exact ⟨0, -1, rfl, rfl, Nat.zero_le _, Lib.hid (.inl ⟨rfl, fun i hi => absurd hi (by omega)⟩), q9, q13, q15, qb⟩
  case round =>
    clear q9 q13 q15 qb
    obtain ⟨j, g, rfl, rfl, hj, hf, q9, q13, q15, qb⟩ := hrel
    have e9 := blk_cell q9
    have y9 := lt_of_block q9
    rcases hf.out with ⟨hg, hno⟩ | ⟨t, hg, htj, h2, hno⟩
    · have Hno := Lib.hid hno
      have dg : decide (g < 0) = true := by simp; omega
      have Hg := Lib.hid hg
      clear hf hno hg
      by_cases hlt : j < m
      · have d1 : decide ((j : Int) < (m : Int)) = true := by simpa using hlt
        have d2 : decide (j < m) = true := by simpa using hlt
        have hjS : j < S.size := by omega
        have hjS' : (j : Int) < (S.size : Int) := by omega
        have hb := Hbt.out j hjS
        have i1 : IntKind.i64.wrap ((j : Int) + 1) = (j : Int) + 1 := IntWalk.i64_in _ (by omega)
        by_cases h2 : bt L j = 2
        · have c2 : (bt L j == 2) = true := by simpa using h2
          have c2' : decide (bt L j = 2) = true := by simpa using h2
          have hf' : Hid (FirstAt L (j + 1) j) := Lib.hid (.inr ⟨j, rfl, rfl, h2, Hno.out⟩)
          clear h2
          go_wp2_with fail
          go_roundw
          case rel => exact ⟨j + 1, j, rfl, by go_num, by omega, hf', q9, q13, q15, qb⟩
          case measure => simp [intOf]; omega
        · have c2 : (bt L j == 2) = false := by simpa using h2
          have c2' : decide (bt L j = 2) = false := by simpa using h2
          have hf' : Hid (FirstAt L (j + 1) g) := Lib.hid (.inl ⟨Hg.out, fun i hi => by
            by_cases h : i < j
            · exact Hno.out i h
            · obtain rfl : i = j := by omega
              exact h2⟩)
          clear h2
          go_wp2_with fail
          go_roundw
          case rel => exact ⟨j + 1, g, rfl, by go_num, by omega, hf', q9, q13, q15, qb⟩
          case measure => simp [intOf]; omega
      · have d1 : decide ((j : Int) < (m : Int)) = false := by simpa using hlt
        have d2 : decide (j < m) = false := by simpa using hlt
        have hjm : j = m := by omega
        have x15 := blk_cell q15
        have y15 := lt_of_block q15
        go_wp2_with fail
        with_reducible refine hR.out _ _ _ _ _ _ _ _ _ _ _ _ _ _ _ _ _ _ _ _ _ _ _ _ _ _ _ _ _ _ _ _ _ _ _ _ _ _ _ _ _ _ _ _ _ _ _ _ _ _ _ _ _ _ _ _ _ _ _ _ _ _ _ _ _ _ _ _ _ _ L _ rfl ⟨by rw [← HS.out]; exact q9, q13, by have := Hlt.out; have := lt_of_block q13; omega⟩ qb
    · have Hno := Lib.hid hno
      have H2 := Lib.hid h2
      have hgt : ¬ g < 0 := by omega
      have dg : decide (g < 0) = false := by simp; omega
      have x15 := blk_cell q15
      have y15 := lt_of_block q15
      clear hf hno h2
      by_cases hlt : j < m
      · have d1 : decide ((j : Int) < (m : Int)) = true := by simpa using hlt
        have d2 : decide (j < m) = true := by simpa using hlt
        exact absurd H2.out (Hall.out t (by omega))
      · have d1 : decide ((j : Int) < (m : Int)) = false := by simpa using hlt
        have d2 : decide (j < m) = false := by simpa using hlt
        exact absurd H2.out (Hall.out t (by omega))
set_option maxRecDepth 1000000 in
set_option maxHeartbeats 8000000 in
theorem take_ok' (w : World) (B0 pb ob : Nat) (k D X : Int) (L : List UInt8) (kd nn : Int) (m : Nat) (hm : pagesF k L = m) (hl : L.length ≤ 300) (hb : Rb w B0 pb ob k D X L kd nn) (h0 : m ≠ 0) (ht : ¬ takeI k L < 0)
    (u0 u1 u2 u3 u4 u5 u6 u7 u8 u10 u11 u12 u15 u16 u17 u18 u19 u20 u21 u22 u23 u24 u25 u26 u27 u28 u29 u30 u31 u32 u33 u34 u35 u36 u37 u38 u39 u40 u41 u42 u43 u44 u45 u46 u47 u48 u49 u50 u51 u52 u53 u54 u55 u56 u57 u58 u59 u60 u61 u62 u63 u64 u65 u66 u67 u68 u69 u70 u71 u72 u73 u74 u75 u76 u77 u78 u79 u80 u81 u82 u83 u84 u85 u86 u87 u88 u89 u90 u91 u92 u93 u94 u95 u96 u97 u98 u99 u100 u101 u102 u103 u104 u105 u106 u107 u108 u109 u110 u111 u112 u113 u114 u115 u116 u117 u118 u119 u120 u121 u122 u123 u124 u125 u126 u127 u128 u129 u130 u131 u132 u133 u134 u135 u136 u137 u138 u139 u140 u141 u142 u143 u144 u145 u146 u147 u148 u149 u150 u151 u152 u153 u154 u155 u156 u157 u158 u159 u160 u161 u162 u163 u164 u165 u166 u167 u168 u169 u170 u171 u172 u173 u174 u175 u176 u177 u178 u179 u180 u181 u182 u183 u184 u185 u186 u187 u188 u189 u190 u191 u192 u193 u194 u195 u196 u197 u198 u199 u200 u201 u202 u203 u204 u205 u206 u207 u208 u209 u210 u211 u212 u213 u214 u215 u216 u217 u218 u219 u220 u221 u222 u223 u224 u225 u226 u227 u228 u229 u230 u231 u232 u233 u234 u235 u236 u237 u238 u239 u240 u241 u242 u243 u244 u245 u246 u247 u248 u249 u250 u251 : Value) (R : Exit → Act → World → Prop) (hP : Hid (∀ c a d v w, R (.panic c) (Act.put a d v) w → R (.panic c) a w))
    (hR : Hid (∀ (v8 v15 v16 v17 v18 v19 v93 v94 v95 v96 v97 v98 v99 v100 v101 v102 v103 v104 v105 v106 v107 v108 v109 v110 v111 v112 v113 v114 v115 v116 v117 v118 v119 v120 v121 v122 v123 v124 v125 v126 v127 v128 v129 v130 v131 v132 v133 v134 v135 v136 v137 v138 v139 v140 v141 v142 v143 v144 v145 v146 v147 v148 v149 v150 v151 v152 v153 v154 v155 v156 : Value) (L' : List UInt8) (w' : World), L'.length = L.length → Rb w' B0 pb ob k D X L' kd nn → Below B0 w w' → R .normal ⟨#[u0, u1, u2, u3, u4, u5, u6, u7, v8, .pointer (some ⟨pb, 0, none⟩), u10, u11, u12, .pointer (some ⟨ob, 0, none⟩), .int .i64 m, v15, v16, v17, v18, v19, u20, u21, u22, u23, u24, u25, u26, u27, u28, u29, u30, u31, u32, u33, u34, u35, u36, u37, u38, u39, u40, u41, u42, u43, u44, u45, u46, u47, u48, u49, u50, u51, u52, u53, u54, u55, u56, u57, u58, u59, u60, u61, u62, u63, u64, u65, u66, u67, u68, u69, u70, u71, u72, u73, u74, u75, u76, u77, u78, u79, u80, u81, u82, u83, u84, u85, u86, u87, u88, u89, u90, u91, u92, v93, v94, v95, v96, v97, v98, v99, v100, v101, v102, v103, v104, v105, v106, v107, v108, v109, v110, v111, v112, v113, v114, v115, v116, v117, v118, v119, v120, v121, v122, v123, v124, v125, v126, v127, v128, v129, v130, v131, v132, v133, v134, v135, v136, v137, v138, v139, v140, v141, v142, v143, v144, v145, v146, v147, v148, v149, v150, v151, v152, v153, v154, v155, v156, u157, u158, u159, u160, u161, u162, u163, u164, u165, u166, u167, u168, u169, u170, u171, u172, u173, u174, u175, u176, u177, u178, u179, u180, u181, u182, u183, u184, u185, u186, u187, u188, u189, u190, u191, u192, u193, u194, u195, u196, u197, u198, u199, u200, u201, u202, u203, u204, u205, u206, u207, u208, u209, u210, u211, u212, u213, u214, u215, u216, u217, u218, u219, u220, u221, u222, u223, u224, u225, u226, u227, u228, u229, u230, u231, u232, u233, u234, u235, u236, u237, u238, u239, u240, u241, u242, u243, u244, u245, u246, u247, u248, u249, u250, u251], []⟩ w')) :
    Code.wp Tryd.prog cTake R ⟨#[u0, u1, u2, u3, u4, u5, u6, u7, u8, .pointer (some ⟨pb, 0, none⟩), u10, u11, u12, .pointer (some ⟨ob, 0, none⟩), .int .i64 m, u15, u16, u17, u18, u19, u20, u21, u22, u23, u24, u25, u26, u27, u28, u29, u30, u31, u32, u33, u34, u35, u36, u37, u38, u39, u40, u41, u42, u43, u44, u45, u46, u47, u48, u49, u50, u51, u52, u53, u54, u55, u56, u57, u58, u59, u60, u61, u62, u63, u64, u65, u66, u67, u68, u69, u70, u71, u72, u73, u74, u75, u76, u77, u78, u79, u80, u81, u82, u83, u84, u85, u86, u87, u88, u89, u90, u91, u92, u93, u94, u95, u96, u97, u98, u99, u100, u101, u102, u103, u104, u105, u106, u107, u108, u109, u110, u111, u112, u113, u114, u115, u116, u117, u118, u119, u120, u121, u122, u123, u124, u125, u126, u127, u128, u129, u130, u131, u132, u133, u134, u135, u136, u137, u138, u139, u140, u141, u142, u143, u144, u145, u146, u147, u148, u149, u150, u151, u152, u153, u154, u155, u156, u157, u158, u159, u160, u161, u162, u163, u164, u165, u166, u167, u168, u169, u170, u171, u172, u173, u174, u175, u176, u177, u178, u179, u180, u181, u182, u183, u184, u185, u186, u187, u188, u189, u190, u191, u192, u193, u194, u195, u196, u197, u198, u199, u200, u201, u202, u203, u204, u205, u206, u207, u208, u209, u210, u211, u212, u213, u214, u215, u216, u217, u218, u219, u220, u221, u222, u223, u224, u225, u226, u227, u228, u229, u230, u231, u232, u233, u234, u235, u236, u237, u238, u239, u240, u241, u242, u243, u244, u245, u246, u247, u248, u249, u250, u251], []⟩ w := by
  obtain ⟨p9, p13, hlt⟩ := hb
  have c9 := blk_cell p9
  have c13 := blk_cell p13
  have z9 := lt_of_block p9
  have z13 := lt_of_block p13
  have hB0 : B0 ≤ w.heap.size := by omega
  have Hlt := Lib.hid hlt
  have Hm := Lib.hid hm
  have hml : m ≤ L.length := by have := pagesF_le_len k L; omega
  have hm64 : m ≤ 64 := by have := pagesF_le k L; omega
  obtain ⟨S, hS⟩ : ∃ S, S = str L := ⟨_, rfl⟩
  have hss : S.size = L.length := by rw [hS, str_size]
  have hbt : ∀ (i : Nat) (h : i < S.size), ((S[i]'h).toNat : Int) = bt L i := by rw [hS]; exact str_bt L
  have hmS : m ≤ S.size := by omega
  have Hbt := Lib.hid hbt
  have Hss := Lib.hid hss
  have hk := map_pagesF (k := k) (l := L) (by omega)
  obtain ⟨rfl, hmap⟩ := hk
  rw [hm] at hmap
  obtain ⟨i, hti, hi2, him, hat, hall⟩ : ∃ i : Nat, takeI 2 L = i ∧ 2 ≤ i ∧ i < m ∧ bt L i = 2 ∧ ∀ j, j < i → bt L j = 1 := by
    rcases takeI_map hmap with ⟨h, _⟩ | h
    · omega
    · exact h
  have htk := fun w => take_ok 2 D X L w (by omega) i hti (by omega)
  have hmp : ∀ w, Calls Tryd.prog 13 #[.agg #[.int .i64 2, .int .i64 D, .int .i64 X, .string (str L)], .int .i64 i, .int .u8 1] w fun e w' => e = .returned (.agg #[.int .i64 2, .int .i64 D, .int .i64 X, .string (str (L.set i 1))]) ∧ Below w.heap.size w w' := fun w => mapped_any 2 D X L i 1 w (by omega) (by omega)
  obtain ⟨T, hT⟩ : ∃ T, T = str (L.set i 1) := ⟨_, rfl⟩
  rw [← hS, ← hT] at htk hmp
  have HT := Lib.hid hT
  have Hat : Hid (bt L i = 2 ∧ ∀ j, j < i → bt L j = 1) := Lib.hid ⟨hat, hall⟩
  have Hall : Hid (2 ≤ i ∧ i < m) := Lib.hid ⟨hi2, him⟩
  have d0 : ((m : Int) == 0) = false := by simp; omega
  have d0' : decide (m = 0) = false := by simp; omega
  clear hmap hti hat hall hi2 him hT ht h0
  rw [← hS] at p9 c9
  have HS := Lib.hid hS
  clear hS hss hbt hm hlt hl
  conv => arg 2; whnf
  go_wp2_with fail
  with_reducible refine (htk _).mono ?_
  rintro e w1 ⟨rfl, hb1⟩
  have q9 : (w1.alloc (.cells #[.int .i64 2, .int .i64 D, .int .i64 X, .string T] 23)).heap[pb]? = some (pgo 2 D X S) := hal (blk_keep p9 hb1)
  have q13 : (w1.alloc (.cells #[.int .i64 2, .int .i64 D, .int .i64 X, .string T] 23)).heap[ob]? = some (opo kd nn) := hal (blk_keep p13 hb1)
  have q15 : (w1.alloc (.cells #[.int .i64 2, .int .i64 D, .int .i64 X, .string T] 23)).heap[w1.heap.size]? = some (.cells #[.int .i64 2, .int .i64 D, .int .i64 X, .string T] 23) := heap_alloc_new w1 _
  have qb : Below B0 w (w1.alloc (.cells #[.int .i64 2, .int .i64 D, .int .i64 X, .string T] 23)) := (hb1.mono hB0).alloc (Nat.le_trans hB0 hb1.size) _
  have how : ob < w1.heap.size := lt_of_block (blk_keep p13 hb1)
  clear c9 c13 z9 z13 p9 p13 hb1
  go_wp2_with fail
  go_loopw [18, 19] (fun u i wr => ∃ (j : Nat) (g : Int), u = .int .i64 g ∧ i = .int .i64 j ∧ j ≤ m ∧ Hid (FirstAt L j g) ∧ wr.heap[pb]? = some (pgo 2 D X S) ∧ wr.heap[ob]? = some (opo kd nn) ∧ wr.heap[w1.heap.size]? = some (.cells #[.int .i64 2, .int .i64 D, .int .i64 X, .string T] 23) ∧ Below B0 w wr) (fun _ i _ => m - (intOf i).toNat)
  case atStart => exact ⟨0, -1, rfl, rfl, Nat.zero_le _, Lib.hid (.inl ⟨rfl, fun i hi => absurd hi (by omega)⟩), q9, q13, q15, qb⟩
  case round =>
    clear q9 q13 q15 qb
    obtain ⟨j, g, rfl, rfl, hj, hf, q9, q13, q15, qb⟩ := hrel
    have e9 := blk_cell q9
    have y9 := lt_of_block q9
    rcases hf.out with ⟨hg, hno⟩ | ⟨t, hg, htj, h2, hno⟩
    · have Hno := Lib.hid hno
      have dg : decide (g < 0) = true := by simp; omega
      have Hg := Lib.hid hg
      clear hf hno hg
      by_cases hlt : j < m
      · have d1 : decide ((j : Int) < (m : Int)) = true := by simpa using hlt
        have d2 : decide (j < m) = true := by simpa using hlt
        have hjS : j < S.size := by omega
        have hjS' : (j : Int) < (S.size : Int) := by omega
        have hb := Hbt.out j hjS
        have i1 : IntKind.i64.wrap ((j : Int) + 1) = (j : Int) + 1 := IntWalk.i64_in _ (by omega)
        by_cases h2 : bt L j = 2
        · have c2 : (bt L j == 2) = true := by simpa using h2
          have c2' : decide (bt L j = 2) = true := by simpa using h2
          have hf' : Hid (FirstAt L (j + 1) j) := Lib.hid (.inr ⟨j, rfl, rfl, h2, Hno.out⟩)
          clear h2
          go_wp2_with fail
          go_roundw
          case rel => exact ⟨j + 1, j, rfl, by go_num, by omega, hf', q9, q13, q15, qb⟩
          case measure => simp [intOf]; omega
        · have c2 : (bt L j == 2) = false := by simpa using h2
          have c2' : decide (bt L j = 2) = false := by simpa using h2
          have hf' : Hid (FirstAt L (j + 1) g) := Lib.hid (.inl ⟨Hg.out, fun i hi => by
            by_cases h : i < j
            · exact Hno.out i h
            · obtain rfl : i = j := by omega
              exact h2⟩)
          clear h2
          go_wp2_with fail
          go_roundw
          case rel => exact ⟨j + 1, g, rfl, by go_num, by omega, hf', q9, q13, q15, qb⟩
          case measure => simp [intOf]; omega
      · have d1 : decide ((j : Int) < (m : Int)) = false := by simpa using hlt
        have d2 : decide (j < m) = false := by simpa using hlt
        have hjm : j = m := by omega
        have x15 := blk_cell q15
        have y15 := lt_of_block q15
        exact absurd Hat.out.1 (Hno.out i (by have := Hall.out; omega))
    · have Hno := Lib.hid hno
      have H2 := Lib.hid h2
      have hgt : ¬ g < 0 := by omega
      have dg : decide (g < 0) = false := by simp; omega
      have x15 := blk_cell q15
      have y15 := lt_of_block q15
      clear hf hno h2
      by_cases hlt : j < m
      · have d1 : decide ((j : Int) < (m : Int)) = true := by simpa using hlt
        have d2 : decide (j < m) = true := by simpa using hlt
        obtain rfl : t = i := by
          have h1 := Hat.out.1
          rcases Nat.lt_trichotomy t i with h | h | h
          · have := Hat.out.2 t h
            have := H2.out
            omega
          · exact h
          · exact absurd h1 (Hno.out i h)
        subst hg
        have hne : w1.heap.size ≠ pb := by have := Hlt.out; omega
        have hne2 : pb ≠ w1.heap.size := fun h => hne h.symm
        clear hj htj hgt Hat Hall
        go_wp2_with fail
        with_reducible refine (hmp _).mono ?_
        rintro e w2 ⟨rfl, hb2⟩
        have r9 := blk_keep q9 hb2
        have r13 := blk_keep q13 hb2
        have r15 := blk_keep q15 hb2
        have rb := below_base qb (by have := qb.size; omega) hb2
        clear e9 y9 x15 y15 q9 q13 q15 qb hb2
        have f9 := blk_cell r9
        have f9f := blk_free r9
        have g9 := lt_of_block r9
        have f15 := blk_cell r15
        have g15 := lt_of_block r15
        go_wp2_with fail
        with_reducible refine hR.out _ _ _ _ _ _ _ _ _ _ _ _ _ _ _ _ _ _ _ _ _ _ _ _ _ _ _ _ _ _ _ _ _ _ _ _ _ _ _ _ _ _ _ _ _ _ _ _ _ _ _ _ _ _ _ _ _ _ _ _ _ _ _ _ _ _ _ _ _ _ (L.set t 1) _ (by simp) ⟨?_, ?_, ?_⟩ ?_
        · rw [← HT.out]; exact set4_same r9 _ _ _ _
        · exact hs4 r13 (by have := Hlt.out; omega)
        · rw [set4_size]; have := Hlt.out; have := lt_of_block r13; omega
        · exact below_set4 rb (by have := Hlt.out; omega) _ _ _ _
      · have d1 : decide ((j : Int) < (m : Int)) = false := by simpa using hlt
        have d2 : decide (j < m) = false := by simpa using hlt
        obtain rfl : t = i := by
          have h1 := Hat.out.1
          rcases Nat.lt_trichotomy t i with h | h | h
          · have := Hat.out.2 t h
            have := H2.out
            omega
          · exact h
          · exact absurd h1 (Hno.out i h)
        subst hg
        have hne : w1.heap.size ≠ pb := by have := Hlt.out; omega
        have hne2 : pb ≠ w1.heap.size := fun h => hne h.symm
        clear hj htj hgt Hat Hall
        go_wp2_with fail
        with_reducible refine (hmp _).mono ?_
        rintro e w2 ⟨rfl, hb2⟩
        have r9 := blk_keep q9 hb2
        have r13 := blk_keep q13 hb2
        have r15 := blk_keep q15 hb2
        have rb := below_base qb (by have := qb.size; omega) hb2
        clear e9 y9 x15 y15 q9 q13 q15 qb hb2
        have f9 := blk_cell r9
        have f9f := blk_free r9
        have g9 := lt_of_block r9
        have f15 := blk_cell r15
        have g15 := lt_of_block r15
        go_wp2_with fail
        with_reducible refine hR.out _ _ _ _ _ _ _ _ _ _ _ _ _ _ _ _ _ _ _ _ _ _ _ _ _ _ _ _ _ _ _ _ _ _ _ _ _ _ _ _ _ _ _ _ _ _ _ _ _ _ _ _ _ _ _ _ _ _ _ _ _ _ _ _ _ _ _ _ _ _ (L.set t 1) _ (by simp) ⟨?_, ?_, ?_⟩ ?_
        · rw [← HT.out]; exact set4_same r9 _ _ _ _
        · exact hs4 r13 (by have := Hlt.out; omega)
        · rw [set4_size]; have := Hlt.out; have := lt_of_block r13; omega
        · exact below_set4 rb (by have := Hlt.out; omega) _ _ _ _
set_option maxRecDepth 1000000 in
set_option maxHeartbeats 8000000 in
theorem take_all (w : World) (B0 pb ob : Nat) (k D X : Int) (L : List UInt8) (kd nn : Int) (m : Nat) (hm : pagesF k L = m) (hl : L.length ≤ 300) (hb : Rb w B0 pb ob k D X L kd nn) 
    (u0 u1 u2 u3 u4 u5 u6 u7 u8 u10 u11 u12 u15 u16 u17 u18 u19 u20 u21 u22 u23 u24 u25 u26 u27 u28 u29 u30 u31 u32 u33 u34 u35 u36 u37 u38 u39 u40 u41 u42 u43 u44 u45 u46 u47 u48 u49 u50 u51 u52 u53 u54 u55 u56 u57 u58 u59 u60 u61 u62 u63 u64 u65 u66 u67 u68 u69 u70 u71 u72 u73 u74 u75 u76 u77 u78 u79 u80 u81 u82 u83 u84 u85 u86 u87 u88 u89 u90 u91 u92 u93 u94 u95 u96 u97 u98 u99 u100 u101 u102 u103 u104 u105 u106 u107 u108 u109 u110 u111 u112 u113 u114 u115 u116 u117 u118 u119 u120 u121 u122 u123 u124 u125 u126 u127 u128 u129 u130 u131 u132 u133 u134 u135 u136 u137 u138 u139 u140 u141 u142 u143 u144 u145 u146 u147 u148 u149 u150 u151 u152 u153 u154 u155 u156 u157 u158 u159 u160 u161 u162 u163 u164 u165 u166 u167 u168 u169 u170 u171 u172 u173 u174 u175 u176 u177 u178 u179 u180 u181 u182 u183 u184 u185 u186 u187 u188 u189 u190 u191 u192 u193 u194 u195 u196 u197 u198 u199 u200 u201 u202 u203 u204 u205 u206 u207 u208 u209 u210 u211 u212 u213 u214 u215 u216 u217 u218 u219 u220 u221 u222 u223 u224 u225 u226 u227 u228 u229 u230 u231 u232 u233 u234 u235 u236 u237 u238 u239 u240 u241 u242 u243 u244 u245 u246 u247 u248 u249 u250 u251 : Value) (R : Exit → Act → World → Prop) (hP : Hid (∀ c a d v w, R (.panic c) (Act.put a d v) w → R (.panic c) a w))
    (hR : Hid (∀ (v8 v15 v16 v17 v18 v19 v93 v94 v95 v96 v97 v98 v99 v100 v101 v102 v103 v104 v105 v106 v107 v108 v109 v110 v111 v112 v113 v114 v115 v116 v117 v118 v119 v120 v121 v122 v123 v124 v125 v126 v127 v128 v129 v130 v131 v132 v133 v134 v135 v136 v137 v138 v139 v140 v141 v142 v143 v144 v145 v146 v147 v148 v149 v150 v151 v152 v153 v154 v155 v156 : Value) (L' : List UInt8) (w' : World), L'.length = L.length → Rb w' B0 pb ob k D X L' kd nn → Below B0 w w' → R .normal ⟨#[u0, u1, u2, u3, u4, u5, u6, u7, v8, .pointer (some ⟨pb, 0, none⟩), u10, u11, u12, .pointer (some ⟨ob, 0, none⟩), .int .i64 m, v15, v16, v17, v18, v19, u20, u21, u22, u23, u24, u25, u26, u27, u28, u29, u30, u31, u32, u33, u34, u35, u36, u37, u38, u39, u40, u41, u42, u43, u44, u45, u46, u47, u48, u49, u50, u51, u52, u53, u54, u55, u56, u57, u58, u59, u60, u61, u62, u63, u64, u65, u66, u67, u68, u69, u70, u71, u72, u73, u74, u75, u76, u77, u78, u79, u80, u81, u82, u83, u84, u85, u86, u87, u88, u89, u90, u91, u92, v93, v94, v95, v96, v97, v98, v99, v100, v101, v102, v103, v104, v105, v106, v107, v108, v109, v110, v111, v112, v113, v114, v115, v116, v117, v118, v119, v120, v121, v122, v123, v124, v125, v126, v127, v128, v129, v130, v131, v132, v133, v134, v135, v136, v137, v138, v139, v140, v141, v142, v143, v144, v145, v146, v147, v148, v149, v150, v151, v152, v153, v154, v155, v156, u157, u158, u159, u160, u161, u162, u163, u164, u165, u166, u167, u168, u169, u170, u171, u172, u173, u174, u175, u176, u177, u178, u179, u180, u181, u182, u183, u184, u185, u186, u187, u188, u189, u190, u191, u192, u193, u194, u195, u196, u197, u198, u199, u200, u201, u202, u203, u204, u205, u206, u207, u208, u209, u210, u211, u212, u213, u214, u215, u216, u217, u218, u219, u220, u221, u222, u223, u224, u225, u226, u227, u228, u229, u230, u231, u232, u233, u234, u235, u236, u237, u238, u239, u240, u241, u242, u243, u244, u245, u246, u247, u248, u249, u250, u251], []⟩ w')) :
    Code.wp Tryd.prog cTake R ⟨#[u0, u1, u2, u3, u4, u5, u6, u7, u8, .pointer (some ⟨pb, 0, none⟩), u10, u11, u12, .pointer (some ⟨ob, 0, none⟩), .int .i64 m, u15, u16, u17, u18, u19, u20, u21, u22, u23, u24, u25, u26, u27, u28, u29, u30, u31, u32, u33, u34, u35, u36, u37, u38, u39, u40, u41, u42, u43, u44, u45, u46, u47, u48, u49, u50, u51, u52, u53, u54, u55, u56, u57, u58, u59, u60, u61, u62, u63, u64, u65, u66, u67, u68, u69, u70, u71, u72, u73, u74, u75, u76, u77, u78, u79, u80, u81, u82, u83, u84, u85, u86, u87, u88, u89, u90, u91, u92, u93, u94, u95, u96, u97, u98, u99, u100, u101, u102, u103, u104, u105, u106, u107, u108, u109, u110, u111, u112, u113, u114, u115, u116, u117, u118, u119, u120, u121, u122, u123, u124, u125, u126, u127, u128, u129, u130, u131, u132, u133, u134, u135, u136, u137, u138, u139, u140, u141, u142, u143, u144, u145, u146, u147, u148, u149, u150, u151, u152, u153, u154, u155, u156, u157, u158, u159, u160, u161, u162, u163, u164, u165, u166, u167, u168, u169, u170, u171, u172, u173, u174, u175, u176, u177, u178, u179, u180, u181, u182, u183, u184, u185, u186, u187, u188, u189, u190, u191, u192, u193, u194, u195, u196, u197, u198, u199, u200, u201, u202, u203, u204, u205, u206, u207, u208, u209, u210, u211, u212, u213, u214, u215, u216, u217, u218, u219, u220, u221, u222, u223, u224, u225, u226, u227, u228, u229, u230, u231, u232, u233, u234, u235, u236, u237, u238, u239, u240, u241, u242, u243, u244, u245, u246, u247, u248, u249, u250, u251], []⟩ w := by
  by_cases h0 : m = 0
  · exact take_no w B0 pb ob k D X L kd nn m hm hl hb h0 u0 u1 u2 u3 u4 u5 u6 u7 u8 u10 u11 u12 u15 u16 u17 u18 u19 u20 u21 u22 u23 u24 u25 u26 u27 u28 u29 u30 u31 u32 u33 u34 u35 u36 u37 u38 u39 u40 u41 u42 u43 u44 u45 u46 u47 u48 u49 u50 u51 u52 u53 u54 u55 u56 u57 u58 u59 u60 u61 u62 u63 u64 u65 u66 u67 u68 u69 u70 u71 u72 u73 u74 u75 u76 u77 u78 u79 u80 u81 u82 u83 u84 u85 u86 u87 u88 u89 u90 u91 u92 u93 u94 u95 u96 u97 u98 u99 u100 u101 u102 u103 u104 u105 u106 u107 u108 u109 u110 u111 u112 u113 u114 u115 u116 u117 u118 u119 u120 u121 u122 u123 u124 u125 u126 u127 u128 u129 u130 u131 u132 u133 u134 u135 u136 u137 u138 u139 u140 u141 u142 u143 u144 u145 u146 u147 u148 u149 u150 u151 u152 u153 u154 u155 u156 u157 u158 u159 u160 u161 u162 u163 u164 u165 u166 u167 u168 u169 u170 u171 u172 u173 u174 u175 u176 u177 u178 u179 u180 u181 u182 u183 u184 u185 u186 u187 u188 u189 u190 u191 u192 u193 u194 u195 u196 u197 u198 u199 u200 u201 u202 u203 u204 u205 u206 u207 u208 u209 u210 u211 u212 u213 u214 u215 u216 u217 u218 u219 u220 u221 u222 u223 u224 u225 u226 u227 u228 u229 u230 u231 u232 u233 u234 u235 u236 u237 u238 u239 u240 u241 u242 u243 u244 u245 u246 u247 u248 u249 u250 u251 R hP hR
  · by_cases ht : takeI k L < 0
    · exact take_disk' w B0 pb ob k D X L kd nn m hm hl hb h0 ht u0 u1 u2 u3 u4 u5 u6 u7 u8 u10 u11 u12 u15 u16 u17 u18 u19 u20 u21 u22 u23 u24 u25 u26 u27 u28 u29 u30 u31 u32 u33 u34 u35 u36 u37 u38 u39 u40 u41 u42 u43 u44 u45 u46 u47 u48 u49 u50 u51 u52 u53 u54 u55 u56 u57 u58 u59 u60 u61 u62 u63 u64 u65 u66 u67 u68 u69 u70 u71 u72 u73 u74 u75 u76 u77 u78 u79 u80 u81 u82 u83 u84 u85 u86 u87 u88 u89 u90 u91 u92 u93 u94 u95 u96 u97 u98 u99 u100 u101 u102 u103 u104 u105 u106 u107 u108 u109 u110 u111 u112 u113 u114 u115 u116 u117 u118 u119 u120 u121 u122 u123 u124 u125 u126 u127 u128 u129 u130 u131 u132 u133 u134 u135 u136 u137 u138 u139 u140 u141 u142 u143 u144 u145 u146 u147 u148 u149 u150 u151 u152 u153 u154 u155 u156 u157 u158 u159 u160 u161 u162 u163 u164 u165 u166 u167 u168 u169 u170 u171 u172 u173 u174 u175 u176 u177 u178 u179 u180 u181 u182 u183 u184 u185 u186 u187 u188 u189 u190 u191 u192 u193 u194 u195 u196 u197 u198 u199 u200 u201 u202 u203 u204 u205 u206 u207 u208 u209 u210 u211 u212 u213 u214 u215 u216 u217 u218 u219 u220 u221 u222 u223 u224 u225 u226 u227 u228 u229 u230 u231 u232 u233 u234 u235 u236 u237 u238 u239 u240 u241 u242 u243 u244 u245 u246 u247 u248 u249 u250 u251 R hP hR
    · exact take_ok' w B0 pb ob k D X L kd nn m hm hl hb h0 ht u0 u1 u2 u3 u4 u5 u6 u7 u8 u10 u11 u12 u15 u16 u17 u18 u19 u20 u21 u22 u23 u24 u25 u26 u27 u28 u29 u30 u31 u32 u33 u34 u35 u36 u37 u38 u39 u40 u41 u42 u43 u44 u45 u46 u47 u48 u49 u50 u51 u52 u53 u54 u55 u56 u57 u58 u59 u60 u61 u62 u63 u64 u65 u66 u67 u68 u69 u70 u71 u72 u73 u74 u75 u76 u77 u78 u79 u80 u81 u82 u83 u84 u85 u86 u87 u88 u89 u90 u91 u92 u93 u94 u95 u96 u97 u98 u99 u100 u101 u102 u103 u104 u105 u106 u107 u108 u109 u110 u111 u112 u113 u114 u115 u116 u117 u118 u119 u120 u121 u122 u123 u124 u125 u126 u127 u128 u129 u130 u131 u132 u133 u134 u135 u136 u137 u138 u139 u140 u141 u142 u143 u144 u145 u146 u147 u148 u149 u150 u151 u152 u153 u154 u155 u156 u157 u158 u159 u160 u161 u162 u163 u164 u165 u166 u167 u168 u169 u170 u171 u172 u173 u174 u175 u176 u177 u178 u179 u180 u181 u182 u183 u184 u185 u186 u187 u188 u189 u190 u191 u192 u193 u194 u195 u196 u197 u198 u199 u200 u201 u202 u203 u204 u205 u206 u207 u208 u209 u210 u211 u212 u213 u214 u215 u216 u217 u218 u219 u220 u221 u222 u223 u224 u225 u226 u227 u228 u229 u230 u231 u232 u233 u234 u235 u236 u237 u238 u239 u240 u241 u242 u243 u244 u245 u246 u247 u248 u249 u250 u251 R hP hR
end Go.Proofs.YtgafmbdledpblaaDoor.Sp
