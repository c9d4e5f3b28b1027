/- SpacePlays: Give. (Printed by tools/gen_sp.py.) -/
import Derived.Test.YtgafmbdledpblaaDoorSpacePlays0
import Derived.Deep.Cut
import Derived.Deep.CutRange
import Derived.Deep.CutBlock
import Derived.Deep.DeepCutAuto
import Derived.RegionTactic
namespace Go.Proofs.YtgafmbdledpblaaDoor.Sp
open Go.RowKit Go.Proofs.YtgafmbdledpblaaDoor.Mem Go.Proofs.YtgafmbdledpblaaDoor.Pg
set_option linter.unusedSimpArgs false
set_option linter.unusedVariables false
set_option maxRecDepth 1000000 in
set_option maxHeartbeats 8000000 in
theorem give_no (w : World) (B0 pb ob : Nat) (k D X : Int) (L : List UInt8) (kd nn : Int) (m : Nat) (hm : pagesF k L = m) (hl : L.length ≤ 300) (hb : Rb w B0 pb ob k D X L kd nn) (h0 : m = 0)
    (u0 u1 u2 u3 u4 u5 u6 u7 u8 u10 u11 u12 u15 u16 u17 u18 u19 u20 u21 u22 u23 u24 u25 u26 u27 u28 u29 u30 u31 u32 u33 u34 u35 u36 u37 u38 u39 u40 u41 u42 u43 u44 u45 u46 u47 u48 u49 u50 u51 u52 u53 u54 u55 u56 u57 u58 u59 u60 u61 u62 u63 u64 u65 u66 u67 u68 u69 u70 u71 u72 u73 u74 u75 u76 u77 u78 u79 u80 u81 u82 u83 u84 u85 u86 u87 u88 u89 u90 u91 u92 u93 u94 u95 u96 u97 u98 u99 u100 u101 u102 u103 u104 u105 u106 u107 u108 u109 u110 u111 u112 u113 u114 u115 u116 u117 u118 u119 u120 u121 u122 u123 u124 u125 u126 u127 u128 u129 u130 u131 u132 u133 u134 u135 u136 u137 u138 u139 u140 u141 u142 u143 u144 u145 u146 u147 u148 u149 u150 u151 u152 u153 u154 u155 u156 u157 u158 u159 u160 u161 u162 u163 u164 u165 u166 u167 u168 u169 u170 u171 u172 u173 u174 u175 u176 u177 u178 u179 u180 u181 u182 u183 u184 u185 u186 u187 u188 u189 u190 u191 u192 u193 u194 u195 u196 u197 u198 u199 u200 u201 u202 u203 u204 u205 u206 u207 u208 u209 u210 u211 u212 u213 u214 u215 u216 u217 u218 u219 u220 u221 u222 u223 u224 u225 u226 u227 u228 u229 u230 u231 u232 u233 u234 u235 u236 u237 u238 u239 u240 u241 u242 u243 u244 u245 u246 u247 u248 u249 u250 u251 : Value) (R : Exit → Act → World → Prop) (hP : Hid (∀ c a d v w, R (.panic c) (Act.put a d v) w → R (.panic c) a w))
    (hR : Hid (∀ (v8 v20 v21 v22 v159 v160 v161 v162 v163 v164 v165 v166 v167 v168 v169 v170 v171 v172 v173 v174 v175 v176 v177 v178 v179 v180 v181 v182 v183 v184 v185 v186 v187 v188 v189 v190 v191 v192 v193 v194 v195 v196 v197 v198 v199 v200 v201 : Value) (L' : List UInt8) (w' : World), L'.length = L.length → Rb w' B0 pb ob k D X L' kd nn → Below B0 w w' → R .normal ⟨#[u0, u1, u2, u3, u4, u5, u6, u7, v8, .pointer (some ⟨pb, 0, none⟩), u10, u11, u12, .pointer (some ⟨ob, 0, none⟩), .int .i64 m, u15, u16, u17, u18, u19, v20, v21, v22, u23, u24, u25, u26, u27, u28, u29, u30, u31, u32, u33, u34, u35, u36, u37, u38, u39, u40, u41, u42, u43, u44, u45, u46, u47, u48, u49, u50, u51, u52, u53, u54, u55, u56, u57, u58, u59, u60, u61, u62, u63, u64, u65, u66, u67, u68, u69, u70, u71, u72, u73, u74, u75, u76, u77, u78, u79, u80, u81, u82, u83, u84, u85, u86, u87, u88, u89, u90, u91, u92, u93, u94, u95, u96, u97, u98, u99, u100, u101, u102, u103, u104, u105, u106, u107, u108, u109, u110, u111, u112, u113, u114, u115, u116, u117, u118, u119, u120, u121, u122, u123, u124, u125, u126, u127, u128, u129, u130, u131, u132, u133, u134, u135, u136, u137, u138, u139, u140, u141, u142, u143, u144, u145, u146, u147, u148, u149, u150, u151, u152, u153, u154, u155, u156, u157, u158, v159, v160, v161, v162, v163, v164, v165, v166, v167, v168, v169, v170, v171, v172, v173, v174, v175, v176, v177, v178, v179, v180, v181, v182, v183, v184, v185, v186, v187, v188, v189, v190, v191, v192, v193, v194, v195, v196, v197, v198, v199, v200, v201, u202, u203, u204, u205, u206, u207, u208, u209, u210, u211, u212, u213, u214, u215, u216, u217, u218, u219, u220, u221, u222, u223, u224, u225, u226, u227, u228, u229, u230, u231, u232, u233, u234, u235, u236, u237, u238, u239, u240, u241, u242, u243, u244, u245, u246, u247, u248, u249, u250, u251], []⟩ w')) :
    Code.wp Tryd.prog cGive R ⟨#[u0, u1, u2, u3, u4, u5, u6, u7, u8, .pointer (some ⟨pb, 0, none⟩), u10, u11, u12, .pointer (some ⟨ob, 0, none⟩), .int .i64 m, u15, u16, u17, u18, u19, u20, u21, u22, u23, u24, u25, u26, u27, u28, u29, u30, u31, u32, u33, u34, u35, u36, u37, u38, u39, u40, u41, u42, u43, u44, u45, u46, u47, u48, u49, u50, u51, u52, u53, u54, u55, u56, u57, u58, u59, u60, u61, u62, u63, u64, u65, u66, u67, u68, u69, u70, u71, u72, u73, u74, u75, u76, u77, u78, u79, u80, u81, u82, u83, u84, u85, u86, u87, u88, u89, u90, u91, u92, u93, u94, u95, u96, u97, u98, u99, u100, u101, u102, u103, u104, u105, u106, u107, u108, u109, u110, u111, u112, u113, u114, u115, u116, u117, u118, u119, u120, u121, u122, u123, u124, u125, u126, u127, u128, u129, u130, u131, u132, u133, u134, u135, u136, u137, u138, u139, u140, u141, u142, u143, u144, u145, u146, u147, u148, u149, u150, u151, u152, u153, u154, u155, u156, u157, u158, u159, u160, u161, u162, u163, u164, u165, u166, u167, u168, u169, u170, u171, u172, u173, u174, u175, u176, u177, u178, u179, u180, u181, u182, u183, u184, u185, u186, u187, u188, u189, u190, u191, u192, u193, u194, u195, u196, u197, u198, u199, u200, u201, u202, u203, u204, u205, u206, u207, u208, u209, u210, u211, u212, u213, u214, u215, u216, u217, u218, u219, u220, u221, u222, u223, u224, u225, u226, u227, u228, u229, u230, u231, u232, u233, u234, u235, u236, u237, u238, u239, u240, u241, u242, u243, u244, u245, u246, u247, u248, u249, u250, u251], []⟩ w := by
  obtain ⟨p9, p13, hlt⟩ := hb
  have c9 := blk_cell p9
  have c13 := blk_cell p13
  have z9 := lt_of_block p9
  have z13 := lt_of_block p13
  have hB0 : B0 ≤ w.heap.size := by omega
  have Hlt := Lib.hid hlt
  have Hm := Lib.hid hm
  have hml : m ≤ L.length := by have := pagesF_le_len k L; omega
  have hm64 : m ≤ 64 := by have := pagesF_le k L; omega
  obtain ⟨S, hS⟩ : ∃ S, S = str L := ⟨_, rfl⟩
  have hss : S.size = L.length := by rw [hS, str_size]
  have hbt : ∀ (i : Nat) (h : i < S.size), ((S[i]'h).toNat : Int) = bt L i := by rw [hS]; exact str_bt L
  have hmS : m ≤ S.size := by omega
  have Hbt := Lib.hid hbt
  have Hss := Lib.hid hss
  have hgv := fun w => give_form k D X nn L w (by omega) (by omega)
  rw [← hS] at hgv
  have d0 : ((m : Int) == 0) = true := by simp; omega
  have d0' : decide (m = 0) = true := by simp; omega
  have H0 := Lib.hid h0
  clear h0
  rw [← hS] at p9 c9
  have HS := Lib.hid hS
  clear hS hss hbt hm hlt hl
  conv => arg 2; whnf
  go_wp2_with fail
  with_reducible refine (hgv _).mono ?_
  rintro e w1 ⟨rfl, hb1⟩
  have q9 : (w1.alloc (.cells #[.int .i64 0, .int .i64 0, .int .i64 0, .string ⟨#[]⟩] 23)).heap[pb]? = some (pgo k D X S) := hal (blk_keep p9 hb1)
  have q13 : (w1.alloc (.cells #[.int .i64 0, .int .i64 0, .int .i64 0, .string ⟨#[]⟩] 23)).heap[ob]? = some (opo kd nn) := hal (blk_keep p13 hb1)
  have q15 : (w1.alloc (.cells #[.int .i64 0, .int .i64 0, .int .i64 0, .string ⟨#[]⟩] 23)).heap[w1.heap.size]? = some (.cells #[.int .i64 0, .int .i64 0, .int .i64 0, .string ⟨#[]⟩] 23) := heap_alloc_new w1 _
  have qb : Below B0 w (w1.alloc (.cells #[.int .i64 0, .int .i64 0, .int .i64 0, .string ⟨#[]⟩] 23)) := (hb1.mono hB0).alloc (Nat.le_trans hB0 hb1.size) _
  have how : ob < w1.heap.size := lt_of_block (blk_keep p13 hb1)
  have e9 := blk_cell q9
  have y9 := lt_of_block q9
  have e13 := blk_cell q13
  have y13 := lt_of_block q13
  have e15 := blk_cell q15
  have y15 := lt_of_block q15
  clear c9 c13 z9 z13 p9 p13 hb1
  go_wp2_with fail
  with_reducible refine hR.out _ _ _ _ _ _ _ _ _ _ _ _ _ _ _ _ _ _ _ _ _ _ _ _ _ _ _ _ _ _ _ _ _ _ _ _ _ _ _ _ _ _ _ _ _ _ _ L _ rfl ⟨by rw [← HS.out]; exact q9, q13, by have := Hlt.out; have := lt_of_block q13; omega⟩ qb
set_option maxRecDepth 1000000 in
set_option maxHeartbeats 8000000 in
theorem give_lo (w : World) (B0 pb ob : Nat) (k D X : Int) (L : List UInt8) (kd nn : Int) (m : Nat) (hm : pagesF k L = m) (hl : L.length ≤ 300) (hb : Rb w B0 pb ob k D X L kd nn) (h0 : m ≠ 0) (h2 : nn < 2)
    (u0 u1 u2 u3 u4 u5 u6 u7 u8 u10 u11 u12 u15 u16 u17 u18 u19 u20 u21 u22 u23 u24 u25 u26 u27 u28 u29 u30 u31 u32 u33 u34 u35 u36 u37 u38 u39 u40 u41 u42 u43 u44 u45 u46 u47 u48 u49 u50 u51 u52 u53 u54 u55 u56 u57 u58 u59 u60 u61 u62 u63 u64 u65 u66 u67 u68 u69 u70 u71 u72 u73 u74 u75 u76 u77 u78 u79 u80 u81 u82 u83 u84 u85 u86 u87 u88 u89 u90 u91 u92 u93 u94 u95 u96 u97 u98 u99 u100 u101 u102 u103 u104 u105 u106 u107 u108 u109 u110 u111 u112 u113 u114 u115 u116 u117 u118 u119 u120 u121 u122 u123 u124 u125 u126 u127 u128 u129 u130 u131 u132 u133 u134 u135 u136 u137 u138 u139 u140 u141 u142 u143 u144 u145 u146 u147 u148 u149 u150 u151 u152 u153 u154 u155 u156 u157 u158 u159 u160 u161 u162 u163 u164 u165 u166 u167 u168 u169 u170 u171 u172 u173 u174 u175 u176 u177 u178 u179 u180 u181 u182 u183 u184 u185 u186 u187 u188 u189 u190 u191 u192 u193 u194 u195 u196 u197 u198 u199 u200 u201 u202 u203 u204 u205 u206 u207 u208 u209 u210 u211 u212 u213 u214 u215 u216 u217 u218 u219 u220 u221 u222 u223 u224 u225 u226 u227 u228 u229 u230 u231 u232 u233 u234 u235 u236 u237 u238 u239 u240 u241 u242 u243 u244 u245 u246 u247 u248 u249 u250 u251 : Value) (R : Exit → Act → World → Prop) (hP : Hid (∀ c a d v w, R (.panic c) (Act.put a d v) w → R (.panic c) a w))
    (hR : Hid (∀ (v8 v20 v21 v22 v159 v160 v161 v162 v163 v164 v165 v166 v167 v168 v169 v170 v171 v172 v173 v174 v175 v176 v177 v178 v179 v180 v181 v182 v183 v184 v185 v186 v187 v188 v189 v190 v191 v192 v193 v194 v195 v196 v197 v198 v199 v200 v201 : Value) (L' : List UInt8) (w' : World), L'.length = L.length → Rb w' B0 pb ob k D X L' kd nn → Below B0 w w' → R .normal ⟨#[u0, u1, u2, u3, u4, u5, u6, u7, v8, .pointer (some ⟨pb, 0, none⟩), u10, u11, u12, .pointer (some ⟨ob, 0, none⟩), .int .i64 m, u15, u16, u17, u18, u19, v20, v21, v22, u23, u24, u25, u26, u27, u28, u29, u30, u31, u32, u33, u34, u35, u36, u37, u38, u39, u40, u41, u42, u43, u44, u45, u46, u47, u48, u49, u50, u51, u52, u53, u54, u55, u56, u57, u58, u59, u60, u61, u62, u63, u64, u65, u66, u67, u68, u69, u70, u71, u72, u73, u74, u75, u76, u77, u78, u79, u80, u81, u82, u83, u84, u85, u86, u87, u88, u89, u90, u91, u92, u93, u94, u95, u96, u97, u98, u99, u100, u101, u102, u103, u104, u105, u106, u107, u108, u109, u110, u111, u112, u113, u114, u115, u116, u117, u118, u119, u120, u121, u122, u123, u124, u125, u126, u127, u128, u129, u130, u131, u132, u133, u134, u135, u136, u137, u138, u139, u140, u141, u142, u143, u144, u145, u146, u147, u148, u149, u150, u151, u152, u153, u154, u155, u156, u157, u158, v159, v160, v161, v162, v163, v164, v165, v166, v167, v168, v169, v170, v171, v172, v173, v174, v175, v176, v177, v178, v179, v180, v181, v182, v183, v184, v185, v186, v187, v188, v189, v190, v191, v192, v193, v194, v195, v196, v197, v198, v199, v200, v201, u202, u203, u204, u205, u206, u207, u208, u209, u210, u211, u212, u213, u214, u215, u216, u217, u218, u219, u220, u221, u222, u223, u224, u225, u226, u227, u228, u229, u230, u231, u232, u233, u234, u235, u236, u237, u238, u239, u240, u241, u242, u243, u244, u245, u246, u247, u248, u249, u250, u251], []⟩ w')) :
    Code.wp Tryd.prog cGive R ⟨#[u0, u1, u2, u3, u4, u5, u6, u7, u8, .pointer (some ⟨pb, 0, none⟩), u10, u11, u12, .pointer (some ⟨ob, 0, none⟩), .int .i64 m, u15, u16, u17, u18, u19, u20, u21, u22, u23, u24, u25, u26, u27, u28, u29, u30, u31, u32, u33, u34, u35, u36, u37, u38, u39, u40, u41, u42, u43, u44, u45, u46, u47, u48, u49, u50, u51, u52, u53, u54, u55, u56, u57, u58, u59, u60, u61, u62, u63, u64, u65, u66, u67, u68, u69, u70, u71, u72, u73, u74, u75, u76, u77, u78, u79, u80, u81, u82, u83, u84, u85, u86, u87, u88, u89, u90, u91, u92, u93, u94, u95, u96, u97, u98, u99, u100, u101, u102, u103, u104, u105, u106, u107, u108, u109, u110, u111, u112, u113, u114, u115, u116, u117, u118, u119, u120, u121, u122, u123, u124, u125, u126, u127, u128, u129, u130, u131, u132, u133, u134, u135, u136, u137, u138, u139, u140, u141, u142, u143, u144, u145, u146, u147, u148, u149, u150, u151, u152, u153, u154, u155, u156, u157, u158, u159, u160, u161, u162, u163, u164, u165, u166, u167, u168, u169, u170, u171, u172, u173, u174, u175, u176, u177, u178, u179, u180, u181, u182, u183, u184, u185, u186, u187, u188, u189, u190, u191, u192, u193, u194, u195, u196, u197, u198, u199, u200, u201, u202, u203, u204, u205, u206, u207, u208, u209, u210, u211, u212, u213, u214, u215, u216, u217, u218, u219, u220, u221, u222, u223, u224, u225, u226, u227, u228, u229, u230, u231, u232, u233, u234, u235, u236, u237, u238, u239, u240, u241, u242, u243, u244, u245, u246, u247, u248, u249, u250, u251], []⟩ w := by
  obtain ⟨p9, p13, hlt⟩ := hb
  have c9 := blk_cell p9
  have c13 := blk_cell p13
  have z9 := lt_of_block p9
  have z13 := lt_of_block p13
  have hB0 : B0 ≤ w.heap.size := by omega
  have Hlt := Lib.hid hlt
  have Hm := Lib.hid hm
  have hml : m ≤ L.length := by have := pagesF_le_len k L; omega
  have hm64 : m ≤ 64 := by have := pagesF_le k L; omega
  obtain ⟨S, hS⟩ : ∃ S, S = str L := ⟨_, rfl⟩
  have hss : S.size = L.length := by rw [hS, str_size]
  have hbt : ∀ (i : Nat) (h : i < S.size), ((S[i]'h).toNat : Int) = bt L i := by rw [hS]; exact str_bt L
  have hmS : m ≤ S.size := by omega
  have Hbt := Lib.hid hbt
  have Hss := Lib.hid hss
  have hgv := fun w => give_arg k D X nn L w (by omega) (by omega) (.inl h2)
  rw [← hS] at hgv
  have d0 : ((m : Int) == 0) = false := by simp; omega
  have d0' : decide (m = 0) = false := by simp; omega
  have d2 : decide (nn < 2) = true := by simpa using h2
  clear h2
  rw [← hS] at p9 c9
  have HS := Lib.hid hS
  clear hS hss hbt hm hlt hl
  conv => arg 2; whnf
  go_wp2_with fail
  with_reducible refine (hgv _).mono ?_
  rintro e w1 ⟨rfl, hb1⟩
  have q9 : (w1.alloc (.cells #[.int .i64 0, .int .i64 0, .int .i64 0, .string ⟨#[]⟩] 23)).heap[pb]? = some (pgo k D X S) := hal (blk_keep p9 hb1)
  have q13 : (w1.alloc (.cells #[.int .i64 0, .int .i64 0, .int .i64 0, .string ⟨#[]⟩] 23)).heap[ob]? = some (opo kd nn) := hal (blk_keep p13 hb1)
  have q15 : (w1.alloc (.cells #[.int .i64 0, .int .i64 0, .int .i64 0, .string ⟨#[]⟩] 23)).heap[w1.heap.size]? = some (.cells #[.int .i64 0, .int .i64 0, .int .i64 0, .string ⟨#[]⟩] 23) := heap_alloc_new w1 _
  have qb : Below B0 w (w1.alloc (.cells #[.int .i64 0, .int .i64 0, .int .i64 0, .string ⟨#[]⟩] 23)) := (hb1.mono hB0).alloc (Nat.le_trans hB0 hb1.size) _
  have how : ob < w1.heap.size := lt_of_block (blk_keep p13 hb1)
  have e9 := blk_cell q9
  have y9 := lt_of_block q9
  have e13 := blk_cell q13
  have y13 := lt_of_block q13
  have e15 := blk_cell q15
  have y15 := lt_of_block q15
  clear c9 c13 z9 z13 p9 p13 hb1
  go_wp2_with fail
  with_reducible refine hR.out _ _ _ _ _ _ _ _ _ _ _ _ _ _ _ _ _ _ _ _ _ _ _ _ _ _ _ _ _ _ _ _ _ _ _ _ _ _ _ _ _ _ _ _ _ _ _ L _ rfl ⟨by rw [← HS.out]; exact q9, q13, by have := Hlt.out; have := lt_of_block q13; omega⟩ qb
set_option maxRecDepth 1000000 in
set_option maxHeartbeats 8000000 in
theorem give_hi (w : World) (B0 pb ob : Nat) (k D X : Int) (L : List UInt8) (kd nn : Int) (m : Nat) (hm : pagesF k L = m) (hl : L.length ≤ 300) (hb : Rb w B0 pb ob k D X L kd nn) (h0 : m ≠ 0) (h2 : ¬ nn < 2) (h3 : (m : Int) ≤ nn)
    (u0 u1 u2 u3 u4 u5 u6 u7 u8 u10 u11 u12 u15 u16 u17 u18 u19 u20 u21 u22 u23 u24 u25 u26 u27 u28 u29 u30 u31 u32 u33 u34 u35 u36 u37 u38 u39 u40 u41 u42 u43 u44 u45 u46 u47 u48 u49 u50 u51 u52 u53 u54 u55 u56 u57 u58 u59 u60 u61 u62 u63 u64 u65 u66 u67 u68 u69 u70 u71 u72 u73 u74 u75 u76 u77 u78 u79 u80 u81 u82 u83 u84 u85 u86 u87 u88 u89 u90 u91 u92 u93 u94 u95 u96 u97 u98 u99 u100 u101 u102 u103 u104 u105 u106 u107 u108 u109 u110 u111 u112 u113 u114 u115 u116 u117 u118 u119 u120 u121 u122 u123 u124 u125 u126 u127 u128 u129 u130 u131 u132 u133 u134 u135 u136 u137 u138 u139 u140 u141 u142 u143 u144 u145 u146 u147 u148 u149 u150 u151 u152 u153 u154 u155 u156 u157 u158 u159 u160 u161 u162 u163 u164 u165 u166 u167 u168 u169 u170 u171 u172 u173 u174 u175 u176 u177 u178 u179 u180 u181 u182 u183 u184 u185 u186 u187 u188 u189 u190 u191 u192 u193 u194 u195 u196 u197 u198 u199 u200 u201 u202 u203 u204 u205 u206 u207 u208 u209 u210 u211 u212 u213 u214 u215 u216 u217 u218 u219 u220 u221 u222 u223 u224 u225 u226 u227 u228 u229 u230 u231 u232 u233 u234 u235 u236 u237 u238 u239 u240 u241 u242 u243 u244 u245 u246 u247 u248 u249 u250 u251 : Value) (R : Exit → Act → World → Prop) (hP : Hid (∀ c a d v w, R (.panic c) (Act.put a d v) w → R (.panic c) a w))
    (hR : Hid (∀ (v8 v20 v21 v22 v159 v160 v161 v162 v163 v164 v165 v166 v167 v168 v169 v170 v171 v172 v173 v174 v175 v176 v177 v178 v179 v180 v181 v182 v183 v184 v185 v186 v187 v188 v189 v190 v191 v192 v193 v194 v195 v196 v197 v198 v199 v200 v201 : Value) (L' : List UInt8) (w' : World), L'.length = L.length → Rb w' B0 pb ob k D X L' kd nn → Below B0 w w' → R .normal ⟨#[u0, u1, u2, u3, u4, u5, u6, u7, v8, .pointer (some ⟨pb, 0, none⟩), u10, u11, u12, .pointer (some ⟨ob, 0, none⟩), .int .i64 m, u15, u16, u17, u18, u19, v20, v21, v22, u23, u24, u25, u26, u27, u28, u29, u30, u31, u32, u33, u34, u35, u36, u37, u38, u39, u40, u41, u42, u43, u44, u45, u46, u47, u48, u49, u50, u51, u52, u53, u54, u55, u56, u57, u58, u59, u60, u61, u62, u63, u64, u65, u66, u67, u68, u69, u70, u71, u72, u73, u74, u75, u76, u77, u78, u79, u80, u81, u82, u83, u84, u85, u86, u87, u88, u89, u90, u91, u92, u93, u94, u95, u96, u97, u98, u99, u100, u101, u102, u103, u104, u105, u106, u107, u108, u109, u110, u111, u112, u113, u114, u115, u116, u117, u118, u119, u120, u121, u122, u123, u124, u125, u126, u127, u128, u129, u130, u131, u132, u133, u134, u135, u136, u137, u138, u139, u140, u141, u142, u143, u144, u145, u146, u147, u148, u149, u150, u151, u152, u153, u154, u155, u156, u157, u158, v159, v160, v161, v162, v163, v164, v165, v166, v167, v168, v169, v170, v171, v172, v173, v174, v175, v176, v177, v178, v179, v180, v181, v182, v183, v184, v185, v186, v187, v188, v189, v190, v191, v192, v193, v194, v195, v196, v197, v198, v199, v200, v201, u202, u203, u204, u205, u206, u207, u208, u209, u210, u211, u212, u213, u214, u215, u216, u217, u218, u219, u220, u221, u222, u223, u224, u225, u226, u227, u228, u229, u230, u231, u232, u233, u234, u235, u236, u237, u238, u239, u240, u241, u242, u243, u244, u245, u246, u247, u248, u249, u250, u251], []⟩ w')) :
    Code.wp Tryd.prog cGive R ⟨#[u0, u1, u2, u3, u4, u5, u6, u7, u8, .pointer (some ⟨pb, 0, none⟩), u10, u11, u12, .pointer (some ⟨ob, 0, none⟩), .int .i64 m, u15, u16, u17, u18, u19, u20, u21, u22, u23, u24, u25, u26, u27, u28, u29, u30, u31, u32, u33, u34, u35, u36, u37, u38, u39, u40, u41, u42, u43, u44, u45, u46, u47, u48, u49, u50, u51, u52, u53, u54, u55, u56, u57, u58, u59, u60, u61, u62, u63, u64, u65, u66, u67, u68, u69, u70, u71, u72, u73, u74, u75, u76, u77, u78, u79, u80, u81, u82, u83, u84, u85, u86, u87, u88, u89, u90, u91, u92, u93, u94, u95, u96, u97, u98, u99, u100, u101, u102, u103, u104, u105, u106, u107, u108, u109, u110, u111, u112, u113, u114, u115, u116, u117, u118, u119, u120, u121, u122, u123, u124, u125, u126, u127, u128, u129, u130, u131, u132, u133, u134, u135, u136, u137, u138, u139, u140, u141, u142, u143, u144, u145, u146, u147, u148, u149, u150, u151, u152, u153, u154, u155, u156, u157, u158, u159, u160, u161, u162, u163, u164, u165, u166, u167, u168, u169, u170, u171, u172, u173, u174, u175, u176, u177, u178, u179, u180, u181, u182, u183, u184, u185, u186, u187, u188, u189, u190, u191, u192, u193, u194, u195, u196, u197, u198, u199, u200, u201, u202, u203, u204, u205, u206, u207, u208, u209, u210, u211, u212, u213, u214, u215, u216, u217, u218, u219, u220, u221, u222, u223, u224, u225, u226, u227, u228, u229, u230, u231, u232, u233, u234, u235, u236, u237, u238, u239, u240, u241, u242, u243, u244, u245, u246, u247, u248, u249, u250, u251], []⟩ w := by
  obtain ⟨p9, p13, hlt⟩ := hb
  have c9 := blk_cell p9
  have c13 := blk_cell p13
  have z9 := lt_of_block p9
  have z13 := lt_of_block p13
  have hB0 : B0 ≤ w.heap.size := by omega
  have Hlt := Lib.hid hlt
  have Hm := Lib.hid hm
  have hml : m ≤ L.length := by have := pagesF_le_len k L; omega
  have hm64 : m ≤ 64 := by have := pagesF_le k L; omega
  obtain ⟨S, hS⟩ : ∃ S, S = str L := ⟨_, rfl⟩
  have hss : S.size = L.length := by rw [hS, str_size]
  have hbt : ∀ (i : Nat) (h : i < S.size), ((S[i]'h).toNat : Int) = bt L i := by rw [hS]; exact str_bt L
  have hmS : m ≤ S.size := by omega
  have Hbt := Lib.hid hbt
  have Hss := Lib.hid hss
  have huf : usedF k L nn = false := by
    rcases hu : usedF k L nn with _ | _
    · rfl
    · have := ((usedF_iff k L nn).1 hu).2.1
      omega
  have hgv := fun w => give_arg k D X nn L w (by omega) (by omega) (.inr huf)
  rw [← hS] at hgv
  have d0 : ((m : Int) == 0) = false := by simp; omega
  have d0' : decide (m = 0) = false := by simp; omega
  have d2 : decide (nn < 2) = false := by simpa using h2
  have d3 : decide ((m : Int) ≤ nn) = true := by simpa using h3
  clear h2 huf
  rw [← hS] at p9 c9
  have HS := Lib.hid hS
  clear hS hss hbt hm hlt hl
  conv => arg 2; whnf
  go_wp2_with fail
  with_reducible refine (hgv _).mono ?_
  rintro e w1 ⟨rfl, hb1⟩
  have q9 : (w1.alloc (.cells #[.int .i64 0, .int .i64 0, .int .i64 0, .string ⟨#[]⟩] 23)).heap[pb]? = some (pgo k D X S) := hal (blk_keep p9 hb1)
  have q13 : (w1.alloc (.cells #[.int .i64 0, .int .i64 0, .int .i64 0, .string ⟨#[]⟩] 23)).heap[ob]? = some (opo kd nn) := hal (blk_keep p13 hb1)
  have q15 : (w1.alloc (.cells #[.int .i64 0, .int .i64 0, .int .i64 0, .string ⟨#[]⟩] 23)).heap[w1.heap.size]? = some (.cells #[.int .i64 0, .int .i64 0, .int .i64 0, .string ⟨#[]⟩] 23) := heap_alloc_new w1 _
  have qb : Below B0 w (w1.alloc (.cells #[.int .i64 0, .int .i64 0, .int .i64 0, .string ⟨#[]⟩] 23)) := (hb1.mono hB0).alloc (Nat.le_trans hB0 hb1.size) _
  have how : ob < w1.heap.size := lt_of_block (blk_keep p13 hb1)
  have e9 := blk_cell q9
  have y9 := lt_of_block q9
  have e13 := blk_cell q13
  have y13 := lt_of_block q13
  have e15 := blk_cell q15
  have y15 := lt_of_block q15
  clear c9 c13 z9 z13 p9 p13 hb1
  go_wp2_with fail
  with_reducible refine hR.out _ _ _ _ _ _ _ _ _ _ _ _ _ _ _ _ _ _ _ _ _ _ _ _ _ _ _ _ _ _ _ _ _ _ _ _ _ _ _ _ _ _ _ _ _ _ _ L _ rfl ⟨by rw [← HS.out]; exact q9, q13, by have := Hlt.out; have := lt_of_block q13; omega⟩ qb
set_option maxRecDepth 1000000 in
set_option maxHeartbeats 8000000 in
theorem give_two (w : World) (B0 pb ob : Nat) (k D X : Int) (L : List UInt8) (kd nn : Int) (m : Nat) (hm : pagesF k L = m) (hl : L.length ≤ 300) (hb : Rb w B0 pb ob k D X L kd nn) (n : Nat) (hn : nn = n) (h0 : m ≠ 0) (h2 : 2 ≤ n) (h3 : n < m) (h4 : bt L n = 2)
    (u0 u1 u2 u3 u4 u5 u6 u7 u8 u10 u11 u12 u15 u16 u17 u18 u19 u20 u21 u22 u23 u24 u25 u26 u27 u28 u29 u30 u31 u32 u33 u34 u35 u36 u37 u38 u39 u40 u41 u42 u43 u44 u45 u46 u47 u48 u49 u50 u51 u52 u53 u54 u55 u56 u57 u58 u59 u60 u61 u62 u63 u64 u65 u66 u67 u68 u69 u70 u71 u72 u73 u74 u75 u76 u77 u78 u79 u80 u81 u82 u83 u84 u85 u86 u87 u88 u89 u90 u91 u92 u93 u94 u95 u96 u97 u98 u99 u100 u101 u102 u103 u104 u105 u106 u107 u108 u109 u110 u111 u112 u113 u114 u115 u116 u117 u118 u119 u120 u121 u122 u123 u124 u125 u126 u127 u128 u129 u130 u131 u132 u133 u134 u135 u136 u137 u138 u139 u140 u141 u142 u143 u144 u145 u146 u147 u148 u149 u150 u151 u152 u153 u154 u155 u156 u157 u158 u159 u160 u161 u162 u163 u164 u165 u166 u167 u168 u169 u170 u171 u172 u173 u174 u175 u176 u177 u178 u179 u180 u181 u182 u183 u184 u185 u186 u187 u188 u189 u190 u191 u192 u193 u194 u195 u196 u197 u198 u199 u200 u201 u202 u203 u204 u205 u206 u207 u208 u209 u210 u211 u212 u213 u214 u215 u216 u217 u218 u219 u220 u221 u222 u223 u224 u225 u226 u227 u228 u229 u230 u231 u232 u233 u234 u235 u236 u237 u238 u239 u240 u241 u242 u243 u244 u245 u246 u247 u248 u249 u250 u251 : Value) (R : Exit → Act → World → Prop) (hP : Hid (∀ c a d v w, R (.panic c) (Act.put a d v) w → R (.panic c) a w))
    (hR : Hid (∀ (v8 v20 v21 v22 v159 v160 v161 v162 v163 v164 v165 v166 v167 v168 v169 v170 v171 v172 v173 v174 v175 v176 v177 v178 v179 v180 v181 v182 v183 v184 v185 v186 v187 v188 v189 v190 v191 v192 v193 v194 v195 v196 v197 v198 v199 v200 v201 : Value) (L' : List UInt8) (w' : World), L'.length = L.length → Rb w' B0 pb ob k D X L' kd nn → Below B0 w w' → R .normal ⟨#[u0, u1, u2, u3, u4, u5, u6, u7, v8, .pointer (some ⟨pb, 0, none⟩), u10, u11, u12, .pointer (some ⟨ob, 0, none⟩), .int .i64 m, u15, u16, u17, u18, u19, v20, v21, v22, u23, u24, u25, u26, u27, u28, u29, u30, u31, u32, u33, u34, u35, u36, u37, u38, u39, u40, u41, u42, u43, u44, u45, u46, u47, u48, u49, u50, u51, u52, u53, u54, u55, u56, u57, u58, u59, u60, u61, u62, u63, u64, u65, u66, u67, u68, u69, u70, u71, u72, u73, u74, u75, u76, u77, u78, u79, u80, u81, u82, u83, u84, u85, u86, u87, u88, u89, u90, u91, u92, u93, u94, u95, u96, u97, u98, u99, u100, u101, u102, u103, u104, u105, u106, u107, u108, u109, u110, u111, u112, u113, u114, u115, u116, u117, u118, u119, u120, u121, u122, u123, u124, u125, u126, u127, u128, u129, u130, u131, u132, u133, u134, u135, u136, u137, u138, u139, u140, u141, u142, u143, u144, u145, u146, u147, u148, u149, u150, u151, u152, u153, u154, u155, u156, u157, u158, v159, v160, v161, v162, v163, v164, v165, v166, v167, v168, v169, v170, v171, v172, v173, v174, v175, v176, v177, v178, v179, v180, v181, v182, v183, v184, v185, v186, v187, v188, v189, v190, v191, v192, v193, v194, v195, v196, v197, v198, v199, v200, v201, u202, u203, u204, u205, u206, u207, u208, u209, u210, u211, u212, u213, u214, u215, u216, u217, u218, u219, u220, u221, u222, u223, u224, u225, u226, u227, u228, u229, u230, u231, u232, u233, u234, u235, u236, u237, u238, u239, u240, u241, u242, u243, u244, u245, u246, u247, u248, u249, u250, u251], []⟩ w')) :
    Code.wp Tryd.prog cGive R ⟨#[u0, u1, u2, u3, u4, u5, u6, u7, u8, .pointer (some ⟨pb, 0, none⟩), u10, u11, u12, .pointer (some ⟨ob, 0, none⟩), .int .i64 m, u15, u16, u17, u18, u19, u20, u21, u22, u23, u24, u25, u26, u27, u28, u29, u30, u31, u32, u33, u34, u35, u36, u37, u38, u39, u40, u41, u42, u43, u44, u45, u46, u47, u48, u49, u50, u51, u52, u53, u54, u55, u56, u57, u58, u59, u60, u61, u62, u63, u64, u65, u66, u67, u68, u69, u70, u71, u72, u73, u74, u75, u76, u77, u78, u79, u80, u81, u82, u83, u84, u85, u86, u87, u88, u89, u90, u91, u92, u93, u94, u95, u96, u97, u98, u99, u100, u101, u102, u103, u104, u105, u106, u107, u108, u109, u110, u111, u112, u113, u114, u115, u116, u117, u118, u119, u120, u121, u122, u123, u124, u125, u126, u127, u128, u129, u130, u131, u132, u133, u134, u135, u136, u137, u138, u139, u140, u141, u142, u143, u144, u145, u146, u147, u148, u149, u150, u151, u152, u153, u154, u155, u156, u157, u158, u159, u160, u161, u162, u163, u164, u165, u166, u167, u168, u169, u170, u171, u172, u173, u174, u175, u176, u177, u178, u179, u180, u181, u182, u183, u184, u185, u186, u187, u188, u189, u190, u191, u192, u193, u194, u195, u196, u197, u198, u199, u200, u201, u202, u203, u204, u205, u206, u207, u208, u209, u210, u211, u212, u213, u214, u215, u216, u217, u218, u219, u220, u221, u222, u223, u224, u225, u226, u227, u228, u229, u230, u231, u232, u233, u234, u235, u236, u237, u238, u239, u240, u241, u242, u243, u244, u245, u246, u247, u248, u249, u250, u251], []⟩ w := by
  subst hn
  obtain ⟨p9, p13, hlt⟩ := hb
  have c9 := blk_cell p9
  have c13 := blk_cell p13
  have z9 := lt_of_block p9
  have z13 := lt_of_block p13
  have hB0 : B0 ≤ w.heap.size := by omega
  have Hlt := Lib.hid hlt
  have Hm := Lib.hid hm
  have hml : m ≤ L.length := by have := pagesF_le_len k L; omega
  have hm64 : m ≤ 64 := by have := pagesF_le k L; omega
  obtain ⟨S, hS⟩ : ∃ S, S = str L := ⟨_, rfl⟩
  have hss : S.size = L.length := by rw [hS, str_size]
  have hbt : ∀ (i : Nat) (h : i < S.size), ((S[i]'h).toNat : Int) = bt L i := by rw [hS]; exact str_bt L
  have hmS : m ≤ S.size := by omega
  have Hbt := Lib.hid hbt
  have Hss := Lib.hid hss
  have huf : usedF k L n = false := by
    rcases hu : usedF k L n with _ | _
    · rfl
    · have := ((usedF_iff k L n).1 hu).2.2
      rw [Int.toNat_natCast] at this
      omega
  have hgv := fun w => give_arg k D X n L w (by omega) (by omega) (.inr huf)
  rw [← hS] at hgv
  have d0 : ((m : Int) == 0) = false := by simp; omega
  have d0' : decide (m = 0) = false := by simp; omega
  have d2 : decide ((n : Int) < 2) = false := by simp; omega
  have d3 : decide ((m : Int) ≤ (n : Int)) = false := by simp; omega
  have d2' : decide (n < 2) = false := by simp; omega
  have d3' : decide (m ≤ n) = false := by simp; omega
  have hnS : n < S.size := by omega
  have hnS' : (n : Int) < (S.size : Int) := by omega
  have hn0 : (0 : Int) ≤ (n : Int) := by omega
  have hbn := hbt n hnS
  have d4 : (bt L n == 2) = true := by simpa using h4
  have d4' : decide (bt L n = 2) = true := by simpa using h4
  clear h4 huf
  rw [← hS] at p9 c9
  have HS := Lib.hid hS
  clear hS hss hbt hm hlt hl
  conv => arg 2; whnf
  go_wp2_with fail
  with_reducible refine (hgv _).mono ?_
  rintro e w1 ⟨rfl, hb1⟩
  have q9 : (w1.alloc (.cells #[.int .i64 0, .int .i64 0, .int .i64 0, .string ⟨#[]⟩] 23)).heap[pb]? = some (pgo k D X S) := hal (blk_keep p9 hb1)
  have q13 : (w1.alloc (.cells #[.int .i64 0, .int .i64 0, .int .i64 0, .string ⟨#[]⟩] 23)).heap[ob]? = some (opo kd n) := hal (blk_keep p13 hb1)
  have q15 : (w1.alloc (.cells #[.int .i64 0, .int .i64 0, .int .i64 0, .string ⟨#[]⟩] 23)).heap[w1.heap.size]? = some (.cells #[.int .i64 0, .int .i64 0, .int .i64 0, .string ⟨#[]⟩] 23) := heap_alloc_new w1 _
  have qb : Below B0 w (w1.alloc (.cells #[.int .i64 0, .int .i64 0, .int .i64 0, .string ⟨#[]⟩] 23)) := (hb1.mono hB0).alloc (Nat.le_trans hB0 hb1.size) _
  have how : ob < w1.heap.size := lt_of_block (blk_keep p13 hb1)
  have e9 := blk_cell q9
  have y9 := lt_of_block q9
  have e13 := blk_cell q13
  have y13 := lt_of_block q13
  have e15 := blk_cell q15
  have y15 := lt_of_block q15
  clear c9 c13 z9 z13 p9 p13 hb1
  go_wp2_with fail
  with_reducible refine hR.out _ _ _ _ _ _ _ _ _ _ _ _ _ _ _ _ _ _ _ _ _ _ _ _ _ _ _ _ _ _ _ _ _ _ _ _ _ _ _ _ _ _ _ _ _ _ _ L _ rfl ⟨by rw [← HS.out]; exact q9, q13, by have := Hlt.out; have := lt_of_block q13; omega⟩ qb
set_option maxRecDepth 1000000 in
set_option maxHeartbeats 8000000 in
theorem give_yes (w : World) (B0 pb ob : Nat) (k D X : Int) (L : List UInt8) (kd nn : Int) (m : Nat) (hm : pagesF k L = m) (hl : L.length ≤ 300) (hb : Rb w B0 pb ob k D X L kd nn) (n : Nat) (hn : nn = n) (h0 : m ≠ 0) (h2 : 2 ≤ n) (h3 : n < m) (h4 : bt L n = 1)
    (u0 u1 u2 u3 u4 u5 u6 u7 u8 u10 u11 u12 u15 u16 u17 u18 u19 u20 u21 u22 u23 u24 u25 u26 u27 u28 u29 u30 u31 u32 u33 u34 u35 u36 u37 u38 u39 u40 u41 u42 u43 u44 u45 u46 u47 u48 u49 u50 u51 u52 u53 u54 u55 u56 u57 u58 u59 u60 u61 u62 u63 u64 u65 u66 u67 u68 u69 u70 u71 u72 u73 u74 u75 u76 u77 u78 u79 u80 u81 u82 u83 u84 u85 u86 u87 u88 u89 u90 u91 u92 u93 u94 u95 u96 u97 u98 u99 u100 u101 u102 u103 u104 u105 u106 u107 u108 u109 u110 u111 u112 u113 u114 u115 u116 u117 u118 u119 u120 u121 u122 u123 u124 u125 u126 u127 u128 u129 u130 u131 u132 u133 u134 u135 u136 u137 u138 u139 u140 u141 u142 u143 u144 u145 u146 u147 u148 u149 u150 u151 u152 u153 u154 u155 u156 u157 u158 u159 u160 u161 u162 u163 u164 u165 u166 u167 u168 u169 u170 u171 u172 u173 u174 u175 u176 u177 u178 u179 u180 u181 u182 u183 u184 u185 u186 u187 u188 u189 u190 u191 u192 u193 u194 u195 u196 u197 u198 u199 u200 u201 u202 u203 u204 u205 u206 u207 u208 u209 u210 u211 u212 u213 u214 u215 u216 u217 u218 u219 u220 u221 u222 u223 u224 u225 u226 u227 u228 u229 u230 u231 u232 u233 u234 u235 u236 u237 u238 u239 u240 u241 u242 u243 u244 u245 u246 u247 u248 u249 u250 u251 : Value) (R : Exit → Act → World → Prop) (hP : Hid (∀ c a d v w, R (.panic c) (Act.put a d v) w → R (.panic c) a w))
    (hR : Hid (∀ (v8 v20 v21 v22 v159 v160 v161 v162 v163 v164 v165 v166 v167 v168 v169 v170 v171 v172 v173 v174 v175 v176 v177 v178 v179 v180 v181 v182 v183 v184 v185 v186 v187 v188 v189 v190 v191 v192 v193 v194 v195 v196 v197 v198 v199 v200 v201 : Value) (L' : List UInt8) (w' : World), L'.length = L.length → Rb w' B0 pb ob k D X L' kd nn → Below B0 w w' → R .normal ⟨#[u0, u1, u2, u3, u4, u5, u6, u7, v8, .pointer (some ⟨pb, 0, none⟩), u10, u11, u12, .pointer (some ⟨ob, 0, none⟩), .int .i64 m, u15, u16, u17, u18, u19, v20, v21, v22, u23, u24, u25, u26, u27, u28, u29, u30, u31, u32, u33, u34, u35, u36, u37, u38, u39, u40, u41, u42, u43, u44, u45, u46, u47, u48, u49, u50, u51, u52, u53, u54, u55, u56, u57, u58, u59, u60, u61, u62, u63, u64, u65, u66, u67, u68, u69, u70, u71, u72, u73, u74, u75, u76, u77, u78, u79, u80, u81, u82, u83, u84, u85, u86, u87, u88, u89, u90, u91, u92, u93, u94, u95, u96, u97, u98, u99, u100, u101, u102, u103, u104, u105, u106, u107, u108, u109, u110, u111, u112, u113, u114, u115, u116, u117, u118, u119, u120, u121, u122, u123, u124, u125, u126, u127, u128, u129, u130, u131, u132, u133, u134, u135, u136, u137, u138, u139, u140, u141, u142, u143, u144, u145, u146, u147, u148, u149, u150, u151, u152, u153, u154, u155, u156, u157, u158, v159, v160, v161, v162, v163, v164, v165, v166, v167, v168, v169, v170, v171, v172, v173, v174, v175, v176, v177, v178, v179, v180, v181, v182, v183, v184, v185, v186, v187, v188, v189, v190, v191, v192, v193, v194, v195, v196, v197, v198, v199, v200, v201, u202, u203, u204, u205, u206, u207, u208, u209, u210, u211, u212, u213, u214, u215, u216, u217, u218, u219, u220, u221, u222, u223, u224, u225, u226, u227, u228, u229, u230, u231, u232, u233, u234, u235, u236, u237, u238, u239, u240, u241, u242, u243, u244, u245, u246, u247, u248, u249, u250, u251], []⟩ w')) :
    Code.wp Tryd.prog cGive R ⟨#[u0, u1, u2, u3, u4, u5, u6, u7, u8, .pointer (some ⟨pb, 0, none⟩), u10, u11, u12, .pointer (some ⟨ob, 0, none⟩), .int .i64 m, u15, u16, u17, u18, u19, u20, u21, u22, u23, u24, u25, u26, u27, u28, u29, u30, u31, u32, u33, u34, u35, u36, u37, u38, u39, u40, u41, u42, u43, u44, u45, u46, u47, u48, u49, u50, u51, u52, u53, u54, u55, u56, u57, u58, u59, u60, u61, u62, u63, u64, u65, u66, u67, u68, u69, u70, u71, u72, u73, u74, u75, u76, u77, u78, u79, u80, u81, u82, u83, u84, u85, u86, u87, u88, u89, u90, u91, u92, u93, u94, u95, u96, u97, u98, u99, u100, u101, u102, u103, u104, u105, u106, u107, u108, u109, u110, u111, u112, u113, u114, u115, u116, u117, u118, u119, u120, u121, u122, u123, u124, u125, u126, u127, u128, u129, u130, u131, u132, u133, u134, u135, u136, u137, u138, u139, u140, u141, u142, u143, u144, u145, u146, u147, u148, u149, u150, u151, u152, u153, u154, u155, u156, u157, u158, u159, u160, u161, u162, u163, u164, u165, u166, u167, u168, u169, u170, u171, u172, u173, u174, u175, u176, u177, u178, u179, u180, u181, u182, u183, u184, u185, u186, u187, u188, u189, u190, u191, u192, u193, u194, u195, u196, u197, u198, u199, u200, u201, u202, u203, u204, u205, u206, u207, u208, u209, u210, u211, u212, u213, u214, u215, u216, u217, u218, u219, u220, u221, u222, u223, u224, u225, u226, u227, u228, u229, u230, u231, u232, u233, u234, u235, u236, u237, u238, u239, u240, u241, u242, u243, u244, u245, u246, u247, u248, u249, u250, u251], []⟩ w := by
  subst hn
  obtain ⟨p9, p13, hlt⟩ := hb
  have c9 := blk_cell p9
  have c13 := blk_cell p13
  have z9 := lt_of_block p9
  have z13 := lt_of_block p13
  have hB0 : B0 ≤ w.heap.size := by omega
  have Hlt := Lib.hid hlt
  have Hm := Lib.hid hm
  have hml : m ≤ L.length := by have := pagesF_le_len k L; omega
  have hm64 : m ≤ 64 := by have := pagesF_le k L; omega
  obtain ⟨S, hS⟩ : ∃ S, S = str L := ⟨_, rfl⟩
  have hss : S.size = L.length := by rw [hS, str_size]
  have hbt : ∀ (i : Nat) (h : i < S.size), ((S[i]'h).toNat : Int) = bt L i := by rw [hS]; exact str_bt L
  have hmS : m ≤ S.size := by omega
  have Hbt := Lib.hid hbt
  have Hss := Lib.hid hss
  obtain ⟨rfl, hmap⟩ := map_pagesF (k := k) (l := L) (by omega)
  have huf : usedF 2 L n = true := (usedF_iff 2 L n).2 ⟨by omega, by omega, by rw [Int.toNat_natCast]; exact h4⟩
  have hgv := fun w => give_ok 2 D X n L w (by omega) h2 huf
  have hmp : ∀ w, Calls Tryd.prog 13 #[.agg #[.int .i64 2, .int .i64 D, .int .i64 X, .string (str L)], .int .i64 n, .int .u8 2] w fun e w' => e = .returned (.agg #[.int .i64 2, .int .i64 D, .int .i64 X, .string (str (L.set n 2))]) ∧ Below w.heap.size w w' := fun w => mapped_any 2 D X L n 2 w (by omega) (by omega)
  obtain ⟨T, hT⟩ : ∃ T, T = str (L.set n 2) := ⟨_, rfl⟩
  rw [← hS, ← hT] at hgv hmp
  have HT := Lib.hid hT
  have d0 : ((m : Int) == 0) = false := by simp; omega
  have d0' : decide (m = 0) = false := by simp; omega
  have d2 : decide ((n : Int) < 2) = false := by simp; omega
  have d3 : decide ((m : Int) ≤ (n : Int)) = false := by simp; omega
  have d2' : decide (n < 2) = false := by simp; omega
  have d3' : decide (m ≤ n) = false := by simp; omega
  have hnS : n < S.size := by omega
  have hnS' : (n : Int) < (S.size : Int) := by omega
  have hn0 : (0 : Int) ≤ (n : Int) := by omega
  have hbn := hbt n hnS
  have d4 : (bt L n == 2) = false := by rw [h4]; rfl
  have d4' : decide (bt L n = 2) = false := by rw [h4]; rfl
  clear h4 huf hmap hT
  rw [← hS] at p9 c9
  have HS := Lib.hid hS
  clear hS hss hbt hm hlt hl
  conv => arg 2; whnf
  go_wp2_with fail
  with_reducible refine (hgv _).mono ?_
  rintro e w1 ⟨rfl, hb1⟩
  have q9 : (w1.alloc (.cells #[.int .i64 2, .int .i64 D, .int .i64 X, .string T] 23)).heap[pb]? = some (pgo 2 D X S) := hal (blk_keep p9 hb1)
  have q13 : (w1.alloc (.cells #[.int .i64 2, .int .i64 D, .int .i64 X, .string T] 23)).heap[ob]? = some (opo kd n) := hal (blk_keep p13 hb1)
  have q15 : (w1.alloc (.cells #[.int .i64 2, .int .i64 D, .int .i64 X, .string T] 23)).heap[w1.heap.size]? = some (.cells #[.int .i64 2, .int .i64 D, .int .i64 X, .string T] 23) := heap_alloc_new w1 _
  have qb : Below B0 w (w1.alloc (.cells #[.int .i64 2, .int .i64 D, .int .i64 X, .string T] 23)) := (hb1.mono hB0).alloc (Nat.le_trans hB0 hb1.size) _
  have how : ob < w1.heap.size := lt_of_block (blk_keep p13 hb1)
  have e9 := blk_cell q9
  have y9 := lt_of_block q9
  have e13 := blk_cell q13
  have y13 := lt_of_block q13
  have e15 := blk_cell q15
  have y15 := lt_of_block q15
  clear c9 c13 z9 z13 p9 p13 hb1
  go_wp2_with fail
  with_reducible refine (hmp _).mono ?_
  rintro e w2 ⟨rfl, hb2⟩
  have hne : w1.heap.size ≠ pb := by have := Hlt.out; omega
  have hne2 : pb ≠ w1.heap.size := fun h => hne h.symm
  have r9 := blk_keep q9 hb2
  have r13 := blk_keep q13 hb2
  have r15 := blk_keep q15 hb2
  have rb := below_base qb (by have := qb.size; omega) hb2
  clear e9 y9 e13 y13 e15 y15 q9 q13 q15 qb hb2
  have f9 := blk_cell r9
  have f9f := blk_free r9
  have g9 := lt_of_block r9
  have f15 := blk_cell r15
  have g15 := lt_of_block r15
  go_wp2_with fail
  with_reducible refine hR.out _ _ _ _ _ _ _ _ _ _ _ _ _ _ _ _ _ _ _ _ _ _ _ _ _ _ _ _ _ _ _ _ _ _ _ _ _ _ _ _ _ _ _ _ _ _ _ (L.set n 2) _ (by simp) ⟨?_, ?_, ?_⟩ ?_
  · rw [← HT.out]; exact set4_same r9 _ _ _ _
  · exact hs4 r13 (by have := Hlt.out; omega)
  · rw [set4_size]; have := Hlt.out; have := lt_of_block r13; omega
  · exact below_set4 rb (by have := Hlt.out; omega) _ _ _ _
set_option maxRecDepth 1000000 in
set_option maxHeartbeats 8000000 in
theorem give_all (w : World) (B0 pb ob : Nat) (k D X : Int) (L : List UInt8) (kd nn : Int) (m : Nat) (hm : pagesF k L = m) (hl : L.length ≤ 300) (hb : Rb w B0 pb ob k D X L kd nn) 
    (u0 u1 u2 u3 u4 u5 u6 u7 u8 u10 u11 u12 u15 u16 u17 u18 u19 u20 u21 u22 u23 u24 u25 u26 u27 u28 u29 u30 u31 u32 u33 u34 u35 u36 u37 u38 u39 u40 u41 u42 u43 u44 u45 u46 u47 u48 u49 u50 u51 u52 u53 u54 u55 u56 u57 u58 u59 u60 u61 u62 u63 u64 u65 u66 u67 u68 u69 u70 u71 u72 u73 u74 u75 u76 u77 u78 u79 u80 u81 u82 u83 u84 u85 u86 u87 u88 u89 u90 u91 u92 u93 u94 u95 u96 u97 u98 u99 u100 u101 u102 u103 u104 u105 u106 u107 u108 u109 u110 u111 u112 u113 u114 u115 u116 u117 u118 u119 u120 u121 u122 u123 u124 u125 u126 u127 u128 u129 u130 u131 u132 u133 u134 u135 u136 u137 u138 u139 u140 u141 u142 u143 u144 u145 u146 u147 u148 u149 u150 u151 u152 u153 u154 u155 u156 u157 u158 u159 u160 u161 u162 u163 u164 u165 u166 u167 u168 u169 u170 u171 u172 u173 u174 u175 u176 u177 u178 u179 u180 u181 u182 u183 u184 u185 u186 u187 u188 u189 u190 u191 u192 u193 u194 u195 u196 u197 u198 u199 u200 u201 u202 u203 u204 u205 u206 u207 u208 u209 u210 u211 u212 u213 u214 u215 u216 u217 u218 u219 u220 u221 u222 u223 u224 u225 u226 u227 u228 u229 u230 u231 u232 u233 u234 u235 u236 u237 u238 u239 u240 u241 u242 u243 u244 u245 u246 u247 u248 u249 u250 u251 : Value) (R : Exit → Act → World → Prop) (hP : Hid (∀ c a d v w, R (.panic c) (Act.put a d v) w → R (.panic c) a w))
    (hR : Hid (∀ (v8 v20 v21 v22 v159 v160 v161 v162 v163 v164 v165 v166 v167 v168 v169 v170 v171 v172 v173 v174 v175 v176 v177 v178 v179 v180 v181 v182 v183 v184 v185 v186 v187 v188 v189 v190 v191 v192 v193 v194 v195 v196 v197 v198 v199 v200 v201 : Value) (L' : List UInt8) (w' : World), L'.length = L.length → Rb w' B0 pb ob k D X L' kd nn → Below B0 w w' → R .normal ⟨#[u0, u1, u2, u3, u4, u5, u6, u7, v8, .pointer (some ⟨pb, 0, none⟩), u10, u11, u12, .pointer (some ⟨ob, 0, none⟩), .int .i64 m, u15, u16, u17, u18, u19, v20, v21, v22, u23, u24, u25, u26, u27, u28, u29, u30, u31, u32, u33, u34, u35, u36, u37, u38, u39, u40, u41, u42, u43, u44, u45, u46, u47, u48, u49, u50, u51, u52, u53, u54, u55, u56, u57, u58, u59, u60, u61, u62, u63, u64, u65, u66, u67, u68, u69, u70, u71, u72, u73, u74, u75, u76, u77, u78, u79, u80, u81, u82, u83, u84, u85, u86, u87, u88, u89, u90, u91, u92, u93, u94, u95, u96, u97, u98, u99, u100, u101, u102, u103, u104, u105, u106, u107, u108, u109, u110, u111, u112, u113, u114, u115, u116, u117, u118, u119, u120, u121, u122, u123, u124, u125, u126, u127, u128, u129, u130, u131, u132, u133, u134, u135, u136, u137, u138, u139, u140, u141, u142, u143, u144, u145, u146, u147, u148, u149, u150, u151, u152, u153, u154, u155, u156, u157, u158, v159, v160, v161, v162, v163, v164, v165, v166, v167, v168, v169, v170, v171, v172, v173, v174, v175, v176, v177, v178, v179, v180, v181, v182, v183, v184, v185, v186, v187, v188, v189, v190, v191, v192, v193, v194, v195, v196, v197, v198, v199, v200, v201, u202, u203, u204, u205, u206, u207, u208, u209, u210, u211, u212, u213, u214, u215, u216, u217, u218, u219, u220, u221, u222, u223, u224, u225, u226, u227, u228, u229, u230, u231, u232, u233, u234, u235, u236, u237, u238, u239, u240, u241, u242, u243, u244, u245, u246, u247, u248, u249, u250, u251], []⟩ w')) :
    Code.wp Tryd.prog cGive R ⟨#[u0, u1, u2, u3, u4, u5, u6, u7, u8, .pointer (some ⟨pb, 0, none⟩), u10, u11, u12, .pointer (some ⟨ob, 0, none⟩), .int .i64 m, u15, u16, u17, u18, u19, u20, u21, u22, u23, u24, u25, u26, u27, u28, u29, u30, u31, u32, u33, u34, u35, u36, u37, u38, u39, u40, u41, u42, u43, u44, u45, u46, u47, u48, u49, u50, u51, u52, u53, u54, u55, u56, u57, u58, u59, u60, u61, u62, u63, u64, u65, u66, u67, u68, u69, u70, u71, u72, u73, u74, u75, u76, u77, u78, u79, u80, u81, u82, u83, u84, u85, u86, u87, u88, u89, u90, u91, u92, u93, u94, u95, u96, u97, u98, u99, u100, u101, u102, u103, u104, u105, u106, u107, u108, u109, u110, u111, u112, u113, u114, u115, u116, u117, u118, u119, u120, u121, u122, u123, u124, u125, u126, u127, u128, u129, u130, u131, u132, u133, u134, u135, u136, u137, u138, u139, u140, u141, u142, u143, u144, u145, u146, u147, u148, u149, u150, u151, u152, u153, u154, u155, u156, u157, u158, u159, u160, u161, u162, u163, u164, u165, u166, u167, u168, u169, u170, u171, u172, u173, u174, u175, u176, u177, u178, u179, u180, u181, u182, u183, u184, u185, u186, u187, u188, u189, u190, u191, u192, u193, u194, u195, u196, u197, u198, u199, u200, u201, u202, u203, u204, u205, u206, u207, u208, u209, u210, u211, u212, u213, u214, u215, u216, u217, u218, u219, u220, u221, u222, u223, u224, u225, u226, u227, u228, u229, u230, u231, u232, u233, u234, u235, u236, u237, u238, u239, u240, u241, u242, u243, u244, u245, u246, u247, u248, u249, u250, u251], []⟩ w := by
  by_cases h0 : m = 0
  · exact give_no w B0 pb ob k D X L kd nn m hm hl hb h0 u0 u1 u2 u3 u4 u5 u6 u7 u8 u10 u11 u12 u15 u16 u17 u18 u19 u20 u21 u22 u23 u24 u25 u26 u27 u28 u29 u30 u31 u32 u33 u34 u35 u36 u37 u38 u39 u40 u41 u42 u43 u44 u45 u46 u47 u48 u49 u50 u51 u52 u53 u54 u55 u56 u57 u58 u59 u60 u61 u62 u63 u64 u65 u66 u67 u68 u69 u70 u71 u72 u73 u74 u75 u76 u77 u78 u79 u80 u81 u82 u83 u84 u85 u86 u87 u88 u89 u90 u91 u92 u93 u94 u95 u96 u97 u98 u99 u100 u101 u102 u103 u104 u105 u106 u107 u108 u109 u110 u111 u112 u113 u114 u115 u116 u117 u118 u119 u120 u121 u122 u123 u124 u125 u126 u127 u128 u129 u130 u131 u132 u133 u134 u135 u136 u137 u138 u139 u140 u141 u142 u143 u144 u145 u146 u147 u148 u149 u150 u151 u152 u153 u154 u155 u156 u157 u158 u159 u160 u161 u162 u163 u164 u165 u166 u167 u168 u169 u170 u171 u172 u173 u174 u175 u176 u177 u178 u179 u180 u181 u182 u183 u184 u185 u186 u187 u188 u189 u190 u191 u192 u193 u194 u195 u196 u197 u198 u199 u200 u201 u202 u203 u204 u205 u206 u207 u208 u209 u210 u211 u212 u213 u214 u215 u216 u217 u218 u219 u220 u221 u222 u223 u224 u225 u226 u227 u228 u229 u230 u231 u232 u233 u234 u235 u236 u237 u238 u239 u240 u241 u242 u243 u244 u245 u246 u247 u248 u249 u250 u251 R hP hR
  · by_cases h2 : nn < 2
    · exact give_lo w B0 pb ob k D X L kd nn m hm hl hb h0 h2 u0 u1 u2 u3 u4 u5 u6 u7 u8 u10 u11 u12 u15 u16 u17 u18 u19 u20 u21 u22 u23 u24 u25 u26 u27 u28 u29 u30 u31 u32 u33 u34 u35 u36 u37 u38 u39 u40 u41 u42 u43 u44 u45 u46 u47 u48 u49 u50 u51 u52 u53 u54 u55 u56 u57 u58 u59 u60 u61 u62 u63 u64 u65 u66 u67 u68 u69 u70 u71 u72 u73 u74 u75 u76 u77 u78 u79 u80 u81 u82 u83 u84 u85 u86 u87 u88 u89 u90 u91 u92 u93 u94 u95 u96 u97 u98 u99 u100 u101 u102 u103 u104 u105 u106 u107 u108 u109 u110 u111 u112 u113 u114 u115 u116 u117 u118 u119 u120 u121 u122 u123 u124 u125 u126 u127 u128 u129 u130 u131 u132 u133 u134 u135 u136 u137 u138 u139 u140 u141 u142 u143 u144 u145 u146 u147 u148 u149 u150 u151 u152 u153 u154 u155 u156 u157 u158 u159 u160 u161 u162 u163 u164 u165 u166 u167 u168 u169 u170 u171 u172 u173 u174 u175 u176 u177 u178 u179 u180 u181 u182 u183 u184 u185 u186 u187 u188 u189 u190 u191 u192 u193 u194 u195 u196 u197 u198 u199 u200 u201 u202 u203 u204 u205 u206 u207 u208 u209 u210 u211 u212 u213 u214 u215 u216 u217 u218 u219 u220 u221 u222 u223 u224 u225 u226 u227 u228 u229 u230 u231 u232 u233 u234 u235 u236 u237 u238 u239 u240 u241 u242 u243 u244 u245 u246 u247 u248 u249 u250 u251 R hP hR
    · by_cases h3 : (m : Int) ≤ nn
      · exact give_hi w B0 pb ob k D X L kd nn m hm hl hb h0 h2 h3 u0 u1 u2 u3 u4 u5 u6 u7 u8 u10 u11 u12 u15 u16 u17 u18 u19 u20 u21 u22 u23 u24 u25 u26 u27 u28 u29 u30 u31 u32 u33 u34 u35 u36 u37 u38 u39 u40 u41 u42 u43 u44 u45 u46 u47 u48 u49 u50 u51 u52 u53 u54 u55 u56 u57 u58 u59 u60 u61 u62 u63 u64 u65 u66 u67 u68 u69 u70 u71 u72 u73 u74 u75 u76 u77 u78 u79 u80 u81 u82 u83 u84 u85 u86 u87 u88 u89 u90 u91 u92 u93 u94 u95 u96 u97 u98 u99 u100 u101 u102 u103 u104 u105 u106 u107 u108 u109 u110 u111 u112 u113 u114 u115 u116 u117 u118 u119 u120 u121 u122 u123 u124 u125 u126 u127 u128 u129 u130 u131 u132 u133 u134 u135 u136 u137 u138 u139 u140 u141 u142 u143 u144 u145 u146 u147 u148 u149 u150 u151 u152 u153 u154 u155 u156 u157 u158 u159 u160 u161 u162 u163 u164 u165 u166 u167 u168 u169 u170 u171 u172 u173 u174 u175 u176 u177 u178 u179 u180 u181 u182 u183 u184 u185 u186 u187 u188 u189 u190 u191 u192 u193 u194 u195 u196 u197 u198 u199 u200 u201 u202 u203 u204 u205 u206 u207 u208 u209 u210 u211 u212 u213 u214 u215 u216 u217 u218 u219 u220 u221 u222 u223 u224 u225 u226 u227 u228 u229 u230 u231 u232 u233 u234 u235 u236 u237 u238 u239 u240 u241 u242 u243 u244 u245 u246 u247 u248 u249 u250 u251 R hP hR
      · obtain ⟨n, hn⟩ := Int.eq_ofNat_of_zero_le (show 0 ≤ nn by omega)
        obtain ⟨hk, hmap⟩ := map_pagesF (k := k) (l := L) (by omega)
        rw [hm] at hmap
        rcases hmap.ok n (by omega) with h4 | h4
        · exact give_yes w B0 pb ob k D X L kd nn m hm hl hb n hn h0 (by omega) (by omega) h4 u0 u1 u2 u3 u4 u5 u6 u7 u8 u10 u11 u12 u15 u16 u17 u18 u19 u20 u21 u22 u23 u24 u25 u26 u27 u28 u29 u30 u31 u32 u33 u34 u35 u36 u37 u38 u39 u40 u41 u42 u43 u44 u45 u46 u47 u48 u49 u50 u51 u52 u53 u54 u55 u56 u57 u58 u59 u60 u61 u62 u63 u64 u65 u66 u67 u68 u69 u70 u71 u72 u73 u74 u75 u76 u77 u78 u79 u80 u81 u82 u83 u84 u85 u86 u87 u88 u89 u90 u91 u92 u93 u94 u95 u96 u97 u98 u99 u100 u101 u102 u103 u104 u105 u106 u107 u108 u109 u110 u111 u112 u113 u114 u115 u116 u117 u118 u119 u120 u121 u122 u123 u124 u125 u126 u127 u128 u129 u130 u131 u132 u133 u134 u135 u136 u137 u138 u139 u140 u141 u142 u143 u144 u145 u146 u147 u148 u149 u150 u151 u152 u153 u154 u155 u156 u157 u158 u159 u160 u161 u162 u163 u164 u165 u166 u167 u168 u169 u170 u171 u172 u173 u174 u175 u176 u177 u178 u179 u180 u181 u182 u183 u184 u185 u186 u187 u188 u189 u190 u191 u192 u193 u194 u195 u196 u197 u198 u199 u200 u201 u202 u203 u204 u205 u206 u207 u208 u209 u210 u211 u212 u213 u214 u215 u216 u217 u218 u219 u220 u221 u222 u223 u224 u225 u226 u227 u228 u229 u230 u231 u232 u233 u234 u235 u236 u237 u238 u239 u240 u241 u242 u243 u244 u245 u246 u247 u248 u249 u250 u251 R hP hR
        · exact give_two w B0 pb ob k D X L kd nn m hm hl hb n hn h0 (by omega) (by omega) h4 u0 u1 u2 u3 u4 u5 u6 u7 u8 u10 u11 u12 u15 u16 u17 u18 u19 u20 u21 u22 u23 u24 u25 u26 u27 u28 u29 u30 u31 u32 u33 u34 u35 u36 u37 u38 u39 u40 u41 u42 u43 u44 u45 u46 u47 u48 u49 u50 u51 u52 u53 u54 u55 u56 u57 u58 u59 u60 u61 u62 u63 u64 u65 u66 u67 u68 u69 u70 u71 u72 u73 u74 u75 u76 u77 u78 u79 u80 u81 u82 u83 u84 u85 u86 u87 u88 u89 u90 u91 u92 u93 u94 u95 u96 u97 u98 u99 u100 u101 u102 u103 u104 u105 u106 u107 u108 u109 u110 u111 u112 u113 u114 u115 u116 u117 u118 u119 u120 u121 u122 u123 u124 u125 u126 u127 u128 u129 u130 u131 u132 u133 u134 u135 u136 u137 u138 u139 u140 u141 u142 u143 u144 u145 u146 u147 u148 u149 u150 u151 u152 u153 u154 u155 u156 u157 u158 u159 u160 u161 u162 u163 u164 u165 u166 u167 u168 u169 u170 u171 u172 u173 u174 u175 u176 u177 u178 u179 u180 u181 u182 u183 u184 u185 u186 u187 u188 u189 u190 u191 u192 u193 u194 u195 u196 u197 u198 u199 u200 u201 u202 u203 u204 u205 u206 u207 u208 u209 u210 u211 u212 u213 u214 u215 u216 u217 u218 u219 u220 u221 u222 u223 u224 u225 u226 u227 u228 u229 u230 u231 u232 u233 u234 u235 u236 u237 u238 u239 u240 u241 u242 u243 u244 u245 u246 u247 u248 u249 u250 u251 R hP hR
end Go.Proofs.YtgafmbdledpblaaDoor.Sp
