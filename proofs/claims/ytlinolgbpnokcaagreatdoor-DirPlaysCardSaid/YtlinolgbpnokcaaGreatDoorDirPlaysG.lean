/- DirPlays: behind what was done; from the loop on. (Printed by tools/gen_dp.py.) -/
import Derived.Test.YtlinolgbpnokcaaGreatDoorDirPlaysE
import Derived.Test.YtlinolgbpnokcaaGreatDoorDirPlaysF
import Derived.Test.YtlinolgbpnokcaaGreatDoorDirPlaysF2
import Derived.Test.YtlinolgbpnokcaaGreatDoorDirPlaysF3
import Derived.Deep.Cut
import Derived.Deep.CutRange
import Derived.Deep.CutBlock
import Derived.Deep.DeepCutAuto
import Derived.RegionTactic
import Derived.Deep.RegionLaw
import Derived.Deep.RegionLawGrows
import Derived.Deep.RegionHeld
namespace Go.Proofs.YtlinolgbpnokcaaGreatDoor.Dr
open Go.RowKit Go.Proofs.YtlinolgbpnokcaaGreatDoor.Mem Go.Proofs.YtlinolgbpnokcaaGreatDoor.Pg Go.Proofs.YtlinolgbpnokcaaGreatDoor.Bk
set_option linter.unusedSimpArgs false
set_option linter.unusedVariables false
set_option maxRecDepth 1000000 in
set_option maxHeartbeats 8000000 in
theorem t51_any (w : World) (B pb kb ob j : Nat) (kk D X : Int) (L : List UInt8) (kd bt dp nn : Int) (o : Nat → Nat) (V U : Nat → Value) (Xs : Nat → List Int) (vI vW : Value) (hk : Book B kb j w o V U Xs vI vW) (hX : ∀ i, i < j → (Xs i).length ≤ 32) (ho : o pb = 1000) (hoo : o ob = 1000) (hB : B ≤ w.heap.size) (hj : j ≤ 60) (k9 : w.heap[pb]? = some (pgo kk D X (str L))) (k14 : w.heap[ob]? = some (opo kd bt dp nn))
    (u0 u1 u2 u3 u4 u5 u6 u7 u8 u10 u11 u13 u15 u16 u17 u18 u19 u20 u21 u22 u23 u24 u25 u26 u27 u28 u29 u30 u31 u32 u33 u34 u35 u36 u37 u38 u39 u40 u41 u42 u43 u44 u45 u46 u47 u48 u49 u50 u51 u52 u53 u54 u55 u56 u57 u58 u59 u60 u61 u62 u63 u64 u65 u66 u67 u68 u69 u70 u71 u72 u73 u74 u75 u76 u77 u78 u79 u80 u81 u82 u83 u84 u85 u86 u87 u88 u89 u90 u91 u92 u93 u94 u95 u96 u97 u98 u99 u100 u101 u102 u103 u104 u105 u106 u107 u108 u109 u110 u111 u112 u113 u114 u115 u116 u117 u118 u119 u120 u121 u122 u123 u124 u125 u126 u127 u128 u129 u130 u131 u132 u133 u134 u135 u136 u137 u138 u139 u140 u141 u142 u143 u144 u145 u146 u147 u148 u149 u150 u151 u152 u153 u154 u155 u156 u157 u158 u159 u160 u161 u162 u163 u164 u165 u166 u167 u168 u169 u170 u171 u172 u173 u174 u175 u176 u177 u178 u179 u180 u181 u182 u183 u184 u185 u186 u187 u188 u189 u190 u191 u192 u193 u194 u195 u196 u197 u198 u199 u200 u201 u202 u203 u204 u205 u206 u207 u208 u209 u210 u211 u212 u213 u214 u215 u216 u217 u218 u219 u220 u221 u222 u223 u224 u225 u226 u227 u228 u229 u230 u231 u232 u233 u234 u235 u236 u237 u238 u239 u240 u241 u242 u243 u244 u245 u246 u247 u248 u249 u250 u251 u252 u253 u254 u255 u256 u257 u258 u259 u260 u261 u262 u263 u264 u265 u266 u267 u268 u269 u270 u271 u272 u273 u274 u275 u276 u277 u278 u279 u280 u281 u282 u283 u284 u285 u286 u287 u288 u289 u290 u291 u292 u293 u294 u295 u296 u297 u298 u299 u300 u301 u302 u303 u304 u305 u306 u307 u308 u309 u310 u311 u312 u313 u314 u315 u316 u317 u318 u319 u320 : Value) (R : Exit → Act → World → Prop)
    (hR : Hid (∀ (v8 v15 v16 v24 v25 v26 v27 v28 v251 v252 v253 v254 v255 v256 v257 v258 v259 v260 v261 v262 v263 v264 v265 v266 v267 v268 v269 v270 v271 v272 v273 v274 v275 v276 v277 v278 v279 v280 v281 v282 v283 v284 v285 v286 v287 v288 v289 v290 v291 v292 v293 v294 v295 v296 v297 v298 v299 v300 v301 v302 v303 v304 v305 v306 v307 v308 v309 v310 v311 v312 v313 v314 v315 v316 v317 : Value) (o' : Nat → Nat) (V' U' : Nat → Value) (Xs' : Nat → List Int) (vI' vW' : Value) (w' : World), Book B kb (j + 1) w' o' V' U' Xs' vI' vW' → (∀ i, i < j + 1 → (Xs' i).length ≤ 32) → o' pb = 1000 → w'.heap[pb]? = some (pgo kk D X (str L)) → Below B w w' → R .normal ⟨#[u0, u1, u2, u3, u4, u5, u6, u7, v8, .pointer (some ⟨pb, 0, none⟩), u10, u11, .pointer (some ⟨kb, 0, none⟩), u13, .pointer (some ⟨ob, 0, none⟩), v15, v16, u17, u18, u19, u20, u21, u22, u23, v24, v25, v26, v27, v28, u29, u30, u31, u32, u33, u34, u35, u36, u37, u38, u39, u40, u41, u42, u43, u44, u45, u46, u47, u48, u49, u50, u51, u52, u53, u54, u55, u56, u57, u58, u59, u60, u61, u62, u63, u64, u65, u66, u67, u68, u69, u70, u71, u72, u73, u74, u75, u76, u77, u78, u79, u80, u81, u82, u83, u84, u85, u86, u87, u88, u89, u90, u91, u92, u93, u94, u95, u96, u97, u98, u99, u100, u101, u102, u103, u104, u105, u106, u107, u108, u109, u110, u111, u112, u113, u114, u115, u116, u117, u118, u119, u120, u121, u122, u123, u124, u125, u126, u127, u128, u129, u130, u131, u132, u133, u134, u135, u136, u137, u138, u139, u140, u141, u142, u143, u144, u145, u146, u147, u148, u149, u150, u151, u152, u153, u154, u155, u156, u157, u158, u159, u160, u161, u162, u163, u164, u165, u166, u167, u168, u169, u170, u171, u172, u173, u174, u175, u176, u177, u178, u179, u180, u181, u182, u183, u184, u185, u186, u187, u188, u189, u190, u191, u192, u193, u194, u195, u196, u197, u198, u199, u200, u201, u202, u203, u204, u205, u206, u207, u208, u209, u210, u211, u212, u213, u214, u215, u216, u217, u218, u219, u220, u221, u222, u223, u224, u225, u226, u227, u228, u229, u230, u231, u232, u233, u234, u235, u236, u237, u238, u239, u240, u241, u242, u243, u244, u245, u246, u247, u248, u249, u250, v251, v252, v253, v254, v255, v256, v257, v258, v259, v260, v261, v262, v263, v264, v265, v266, v267, v268, v269, v270, v271, v272, v273, v274, v275, v276, v277, v278, v279, v280, v281, v282, v283, v284, v285, v286, v287, v288, v289, v290, v291, v292, v293, v294, v295, v296, v297, v298, v299, v300, v301, v302, v303, v304, v305, v306, v307, v308, v309, v310, v311, v312, v313, v314, v315, v316, v317, u318, u319, u320], []⟩ w')) :
    Code.wp Tryz.prog cT51 R ⟨#[u0, u1, u2, u3, u4, u5, u6, u7, u8, .pointer (some ⟨pb, 0, none⟩), u10, u11, .pointer (some ⟨kb, 0, none⟩), u13, .pointer (some ⟨ob, 0, none⟩), u15, u16, u17, u18, u19, u20, u21, u22, u23, u24, u25, u26, u27, u28, u29, u30, u31, u32, u33, u34, u35, u36, u37, u38, u39, u40, u41, u42, u43, u44, u45, u46, u47, u48, u49, u50, u51, u52, u53, u54, u55, u56, u57, u58, u59, u60, u61, u62, u63, u64, u65, u66, u67, u68, u69, u70, u71, u72, u73, u74, u75, u76, u77, u78, u79, u80, u81, u82, u83, u84, u85, u86, u87, u88, u89, u90, u91, u92, u93, u94, u95, u96, u97, u98, u99, u100, u101, u102, u103, u104, u105, u106, u107, u108, u109, u110, u111, u112, u113, u114, u115, u116, u117, u118, u119, u120, u121, u122, u123, u124, u125, u126, u127, u128, u129, u130, u131, u132, u133, u134, u135, u136, u137, u138, u139, u140, u141, u142, u143, u144, u145, u146, u147, u148, u149, u150, u151, u152, u153, u154, u155, u156, u157, u158, u159, u160, u161, u162, u163, u164, u165, u166, u167, u168, u169, u170, u171, u172, u173, u174, u175, u176, u177, u178, u179, u180, u181, u182, u183, u184, u185, u186, u187, u188, u189, u190, u191, u192, u193, u194, u195, u196, u197, u198, u199, u200, u201, u202, u203, u204, u205, u206, u207, u208, u209, u210, u211, u212, u213, u214, u215, u216, u217, u218, u219, u220, u221, u222, u223, u224, u225, u226, u227, u228, u229, u230, u231, u232, u233, u234, u235, u236, u237, u238, u239, u240, u241, u242, u243, u244, u245, u246, u247, u248, u249, u250, u251, u252, u253, u254, u255, u256, u257, u258, u259, u260, u261, u262, u263, u264, u265, u266, u267, u268, u269, u270, u271, u272, u273, u274, u275, u276, u277, u278, u279, u280, u281, u282, u283, u284, u285, u286, u287, u288, u289, u290, u291, u292, u293, u294, u295, u296, u297, u298, u299, u300, u301, u302, u303, u304, u305, u306, u307, u308, u309, u310, u311, u312, u313, u314, u315, u316, u317, u318, u319, u320], []⟩ w := by
  obtain ⟨good, xs, hs⟩ := seen_any kk D X L
  have hX' : ∀ i, i < j + 1 → (upd Xs j xs i).length ≤ 32 := fun i hi => by
    by_cases h : i < j
    · rw [upd_lt _ _ h]; exact hX i h
    · obtain rfl : i = j := by omega
      rw [upd_same]; exact hs.len
  cases hg : good
  · subst hg
    exact t51_no w B pb kb ob j kk D X L kd bt dp nn false xs hs o V U Xs vI vW hk ho hoo hB hj k9 k14 _ _ rfl rfl rfl u0 u1 u2 u3 u4 u5 u6 u7 u8 u10 u11 u13 u15 u16 u17 u18 u19 u20 u21 u22 u23 u24 u25 u26 u27 u28 u29 u30 u31 u32 u33 u34 u35 u36 u37 u38 u39 u40 u41 u42 u43 u44 u45 u46 u47 u48 u49 u50 u51 u52 u53 u54 u55 u56 u57 u58 u59 u60 u61 u62 u63 u64 u65 u66 u67 u68 u69 u70 u71 u72 u73 u74 u75 u76 u77 u78 u79 u80 u81 u82 u83 u84 u85 u86 u87 u88 u89 u90 u91 u92 u93 u94 u95 u96 u97 u98 u99 u100 u101 u102 u103 u104 u105 u106 u107 u108 u109 u110 u111 u112 u113 u114 u115 u116 u117 u118 u119 u120 u121 u122 u123 u124 u125 u126 u127 u128 u129 u130 u131 u132 u133 u134 u135 u136 u137 u138 u139 u140 u141 u142 u143 u144 u145 u146 u147 u148 u149 u150 u151 u152 u153 u154 u155 u156 u157 u158 u159 u160 u161 u162 u163 u164 u165 u166 u167 u168 u169 u170 u171 u172 u173 u174 u175 u176 u177 u178 u179 u180 u181 u182 u183 u184 u185 u186 u187 u188 u189 u190 u191 u192 u193 u194 u195 u196 u197 u198 u199 u200 u201 u202 u203 u204 u205 u206 u207 u208 u209 u210 u211 u212 u213 u214 u215 u216 u217 u218 u219 u220 u221 u222 u223 u224 u225 u226 u227 u228 u229 u230 u231 u232 u233 u234 u235 u236 u237 u238 u239 u240 u241 u242 u243 u244 u245 u246 u247 u248 u249 u250 u251 u252 u253 u254 u255 u256 u257 u258 u259 u260 u261 u262 u263 u264 u265 u266 u267 u268 u269 u270 u271 u272 u273 u274 u275 u276 u277 u278 u279 u280 u281 u282 u283 u284 u285 u286 u287 u288 u289 u290 u291 u292 u293 u294 u295 u296 u297 u298 u299 u300 u301 u302 u303 u304 u305 u306 u307 u308 u309 u310 u311 u312 u313 u314 u315 u316 u317 u318 u319 u320 R (Lib.hid fun v8 v15 v16 v24 v25 v26 v27 v28 v251 v252 v253 v254 v255 v256 v257 v258 v259 v260 v261 v262 v263 v264 v265 v266 v267 v268 v269 v270 v271 v272 v273 v274 v275 v276 v277 v278 v279 v280 v281 v282 v283 v284 v285 v286 v287 v288 v289 v290 v291 v292 v293 v294 v295 v296 v297 v298 v299 v300 v301 v302 v303 v304 v305 v306 v307 v308 v309 v310 v311 v312 v313 v314 v315 v316 v317 o' V' U' vI' vW' w' h1 h2 h3 h4 => hR.out _ _ _ _ _ _ _ _ _ _ _ _ _ _ _ _ _ _ _ _ _ _ _ _ _ _ _ _ _ _ _ _ _ _ _ _ _ _ _ _ _ _ _ _ _ _ _ _ _ _ _ _ _ _ _ _ _ _ _ _ _ _ _ _ _ _ _ _ _ _ _ _ _ _ _ o' V' U' _ vI' vW' w' h1 hX' h2 h3 h4)
  · subst hg
    by_cases hr0 : 0 ≤ bt ∧ bt < xs.length
    · exact t51_in w B pb kb ob j kk D X L kd bt dp nn true xs hs o V U Xs vI vW hk ho hoo hB hj k9 k14 _ true rfl (decide_eq_true hr0) rfl hr0 rfl u0 u1 u2 u3 u4 u5 u6 u7 u8 u10 u11 u13 u15 u16 u17 u18 u19 u20 u21 u22 u23 u24 u25 u26 u27 u28 u29 u30 u31 u32 u33 u34 u35 u36 u37 u38 u39 u40 u41 u42 u43 u44 u45 u46 u47 u48 u49 u50 u51 u52 u53 u54 u55 u56 u57 u58 u59 u60 u61 u62 u63 u64 u65 u66 u67 u68 u69 u70 u71 u72 u73 u74 u75 u76 u77 u78 u79 u80 u81 u82 u83 u84 u85 u86 u87 u88 u89 u90 u91 u92 u93 u94 u95 u96 u97 u98 u99 u100 u101 u102 u103 u104 u105 u106 u107 u108 u109 u110 u111 u112 u113 u114 u115 u116 u117 u118 u119 u120 u121 u122 u123 u124 u125 u126 u127 u128 u129 u130 u131 u132 u133 u134 u135 u136 u137 u138 u139 u140 u141 u142 u143 u144 u145 u146 u147 u148 u149 u150 u151 u152 u153 u154 u155 u156 u157 u158 u159 u160 u161 u162 u163 u164 u165 u166 u167 u168 u169 u170 u171 u172 u173 u174 u175 u176 u177 u178 u179 u180 u181 u182 u183 u184 u185 u186 u187 u188 u189 u190 u191 u192 u193 u194 u195 u196 u197 u198 u199 u200 u201 u202 u203 u204 u205 u206 u207 u208 u209 u210 u211 u212 u213 u214 u215 u216 u217 u218 u219 u220 u221 u222 u223 u224 u225 u226 u227 u228 u229 u230 u231 u232 u233 u234 u235 u236 u237 u238 u239 u240 u241 u242 u243 u244 u245 u246 u247 u248 u249 u250 u251 u252 u253 u254 u255 u256 u257 u258 u259 u260 u261 u262 u263 u264 u265 u266 u267 u268 u269 u270 u271 u272 u273 u274 u275 u276 u277 u278 u279 u280 u281 u282 u283 u284 u285 u286 u287 u288 u289 u290 u291 u292 u293 u294 u295 u296 u297 u298 u299 u300 u301 u302 u303 u304 u305 u306 u307 u308 u309 u310 u311 u312 u313 u314 u315 u316 u317 u318 u319 u320 R (Lib.hid fun v8 v15 v16 v24 v25 v26 v27 v28 v251 v252 v253 v254 v255 v256 v257 v258 v259 v260 v261 v262 v263 v264 v265 v266 v267 v268 v269 v270 v271 v272 v273 v274 v275 v276 v277 v278 v279 v280 v281 v282 v283 v284 v285 v286 v287 v288 v289 v290 v291 v292 v293 v294 v295 v296 v297 v298 v299 v300 v301 v302 v303 v304 v305 v306 v307 v308 v309 v310 v311 v312 v313 v314 v315 v316 v317 o' V' U' vI' vW' w' h1 h2 h3 h4 => hR.out _ _ _ _ _ _ _ _ _ _ _ _ _ _ _ _ _ _ _ _ _ _ _ _ _ _ _ _ _ _ _ _ _ _ _ _ _ _ _ _ _ _ _ _ _ _ _ _ _ _ _ _ _ _ _ _ _ _ _ _ _ _ _ _ _ _ _ _ _ _ _ _ _ _ _ o' V' U' _ vI' vW' w' h1 hX' h2 h3 h4)
    · exact t51_out w B pb kb ob j kk D X L kd bt dp nn true xs hs o V U Xs vI vW hk ho hoo hB hj k9 k14 _ false rfl (decide_eq_false hr0) rfl hr0 rfl u0 u1 u2 u3 u4 u5 u6 u7 u8 u10 u11 u13 u15 u16 u17 u18 u19 u20 u21 u22 u23 u24 u25 u26 u27 u28 u29 u30 u31 u32 u33 u34 u35 u36 u37 u38 u39 u40 u41 u42 u43 u44 u45 u46 u47 u48 u49 u50 u51 u52 u53 u54 u55 u56 u57 u58 u59 u60 u61 u62 u63 u64 u65 u66 u67 u68 u69 u70 u71 u72 u73 u74 u75 u76 u77 u78 u79 u80 u81 u82 u83 u84 u85 u86 u87 u88 u89 u90 u91 u92 u93 u94 u95 u96 u97 u98 u99 u100 u101 u102 u103 u104 u105 u106 u107 u108 u109 u110 u111 u112 u113 u114 u115 u116 u117 u118 u119 u120 u121 u122 u123 u124 u125 u126 u127 u128 u129 u130 u131 u132 u133 u134 u135 u136 u137 u138 u139 u140 u141 u142 u143 u144 u145 u146 u147 u148 u149 u150 u151 u152 u153 u154 u155 u156 u157 u158 u159 u160 u161 u162 u163 u164 u165 u166 u167 u168 u169 u170 u171 u172 u173 u174 u175 u176 u177 u178 u179 u180 u181 u182 u183 u184 u185 u186 u187 u188 u189 u190 u191 u192 u193 u194 u195 u196 u197 u198 u199 u200 u201 u202 u203 u204 u205 u206 u207 u208 u209 u210 u211 u212 u213 u214 u215 u216 u217 u218 u219 u220 u221 u222 u223 u224 u225 u226 u227 u228 u229 u230 u231 u232 u233 u234 u235 u236 u237 u238 u239 u240 u241 u242 u243 u244 u245 u246 u247 u248 u249 u250 u251 u252 u253 u254 u255 u256 u257 u258 u259 u260 u261 u262 u263 u264 u265 u266 u267 u268 u269 u270 u271 u272 u273 u274 u275 u276 u277 u278 u279 u280 u281 u282 u283 u284 u285 u286 u287 u288 u289 u290 u291 u292 u293 u294 u295 u296 u297 u298 u299 u300 u301 u302 u303 u304 u305 u306 u307 u308 u309 u310 u311 u312 u313 u314 u315 u316 u317 u318 u319 u320 R (Lib.hid fun v8 v15 v16 v24 v25 v26 v27 v28 v251 v252 v253 v254 v255 v256 v257 v258 v259 v260 v261 v262 v263 v264 v265 v266 v267 v268 v269 v270 v271 v272 v273 v274 v275 v276 v277 v278 v279 v280 v281 v282 v283 v284 v285 v286 v287 v288 v289 v290 v291 v292 v293 v294 v295 v296 v297 v298 v299 v300 v301 v302 v303 v304 v305 v306 v307 v308 v309 v310 v311 v312 v313 v314 v315 v316 v317 o' V' U' vI' vW' w' h1 h2 h3 h4 => hR.out _ _ _ _ _ _ _ _ _ _ _ _ _ _ _ _ _ _ _ _ _ _ _ _ _ _ _ _ _ _ _ _ _ _ _ _ _ _ _ _ _ _ _ _ _ _ _ _ _ _ _ _ _ _ _ _ _ _ _ _ _ _ _ _ _ _ _ _ _ _ _ _ _ _ _ o' V' U' _ vI' vW' w' h1 hX' h2 h3 h4)
set_option maxRecDepth 1000000 in
set_option maxHeartbeats 8000000 in
theorem loop_any (w w0 : World) (pb : Nat) (A : Option Addr) (len cap : Nat) (Fo : Nat → Nat → Int) (hl : len ≤ 60) (hops : Ops w0 A len Fo) (hpb : w0.heap.size ≤ pb) (hp : ∃ kk D X L, w.heap[pb]? = some (pgo kk D X (str L))) (hb : Below w0.heap.size w0 w)
    (u0 u1 u2 u4 u5 u6 u7 u8 u10 u11 u12 u13 u14 u15 u16 u17 u18 u19 u20 u21 u22 u23 u24 u25 u26 u27 u28 u29 u30 u31 u32 u33 u34 u35 u36 u37 u38 u39 u40 u41 u42 u43 u44 u45 u46 u47 u48 u49 u50 u51 u52 u53 u54 u55 u56 u57 u58 u59 u60 u61 u62 u63 u64 u65 u66 u67 u68 u69 u70 u71 u72 u73 u74 u75 u76 u77 u78 u79 u80 u81 u82 u83 u84 u85 u86 u87 u88 u89 u90 u91 u92 u93 u94 u95 u96 u97 u98 u99 u100 u101 u102 u103 u104 u105 u106 u107 u108 u109 u110 u111 u112 u113 u114 u115 u116 u117 u118 u119 u120 u121 u122 u123 u124 u125 u126 u127 u128 u129 u130 u131 u132 u133 u134 u135 u136 u137 u138 u139 u140 u141 u142 u143 u144 u145 u146 u147 u148 u149 u150 u151 u152 u153 u154 u155 u156 u157 u158 u159 u160 u161 u162 u163 u164 u165 u166 u167 u168 u169 u170 u171 u172 u173 u174 u175 u176 u177 u178 u179 u180 u181 u182 u183 u184 u185 u186 u187 u188 u189 u190 u191 u192 u193 u194 u195 u196 u197 u198 u199 u200 u201 u202 u203 u204 u205 u206 u207 u208 u209 u210 u211 u212 u213 u214 u215 u216 u217 u218 u219 u220 u221 u222 u223 u224 u225 u226 u227 u228 u229 u230 u231 u232 u233 u234 u235 u236 u237 u238 u239 u240 u241 u242 u243 u244 u245 u246 u247 u248 u249 u250 u251 u252 u253 u254 u255 u256 u257 u258 u259 u260 u261 u262 u263 u264 u265 u266 u267 u268 u269 u270 u271 u272 u273 u274 u275 u276 u277 u278 u279 u280 u281 u282 u283 u284 u285 u286 u287 u288 u289 u290 u291 u292 u293 u294 u295 u296 u297 u298 u299 u300 u301 u302 u303 u304 u305 u306 u307 u308 u309 u310 u311 u312 u313 u314 u315 u316 u317 u318 u319 u320 : Value) :
    Code.wp Tryz.prog cFrom9 (bodyPost Tryz.prog Tryz.f3 (fun e w' => e = .returned (.bool true) ∧ Below w0.heap.size w0 w')) ⟨#[u0, u1, u2, .slice A len cap, u4, u5, u6, u7, u8, .pointer (some ⟨pb, 0, none⟩), u10, u11, u12, u13, u14, u15, u16, u17, u18, u19, u20, u21, u22, u23, u24, u25, u26, u27, u28, u29, u30, u31, u32, u33, u34, u35, u36, u37, u38, u39, u40, u41, u42, u43, u44, u45, u46, u47, u48, u49, u50, u51, u52, u53, u54, u55, u56, u57, u58, u59, u60, u61, u62, u63, u64, u65, u66, u67, u68, u69, u70, u71, u72, u73, u74, u75, u76, u77, u78, u79, u80, u81, u82, u83, u84, u85, u86, u87, u88, u89, u90, u91, u92, u93, u94, u95, u96, u97, u98, u99, u100, u101, u102, u103, u104, u105, u106, u107, u108, u109, u110, u111, u112, u113, u114, u115, u116, u117, u118, u119, u120, u121, u122, u123, u124, u125, u126, u127, u128, u129, u130, u131, u132, u133, u134, u135, u136, u137, u138, u139, u140, u141, u142, u143, u144, u145, u146, u147, u148, u149, u150, u151, u152, u153, u154, u155, u156, u157, u158, u159, u160, u161, u162, u163, u164, u165, u166, u167, u168, u169, u170, u171, u172, u173, u174, u175, u176, u177, u178, u179, u180, u181, u182, u183, u184, u185, u186, u187, u188, u189, u190, u191, u192, u193, u194, u195, u196, u197, u198, u199, u200, u201, u202, u203, u204, u205, u206, u207, u208, u209, u210, u211, u212, u213, u214, u215, u216, u217, u218, u219, u220, u221, u222, u223, u224, u225, u226, u227, u228, u229, u230, u231, u232, u233, u234, u235, u236, u237, u238, u239, u240, u241, u242, u243, u244, u245, u246, u247, u248, u249, u250, u251, u252, u253, u254, u255, u256, u257, u258, u259, u260, u261, u262, u263, u264, u265, u266, u267, u268, u269, u270, u271, u272, u273, u274, u275, u276, u277, u278, u279, u280, u281, u282, u283, u284, u285, u286, u287, u288, u289, u290, u291, u292, u293, u294, u295, u296, u297, u298, u299, u300, u301, u302, u303, u304, u305, u306, u307, u308, u309, u310, u311, u312, u313, u314, u315, u316, u317, u318, u319, u320], []⟩ w := by
  have Hops := Lib.hid hops
  obtain ⟨kk, D, X, L, k9⟩ := hp
  have z9 := lt_of_block k9
  have hbz := hb.size
  have hk0 : Book w0.heap.size w.heap.size 0 (w.alloc (.cells (bcs nl nl) 41)) (fun k => if k = w.heap.size then 0 else 1000) (fun _ => nl) (fun _ => nl) (fun _ => []) nl nl := Book.new hbz (heap_alloc_new w _) (if_pos rfl)
  have ho0 : (fun k => if k = w.heap.size then 0 else 1000) pb = 1000 := if_neg (by omega)
  have Hk0 := Lib.hid (And.intro hk0 ho0)
  have k9a : (w.alloc (.cells (bcs nl nl) 41)).heap[pb]? = some (pgo kk D X (str L)) := hal k9
  have hb1 := below_al hb (.cells (bcs nl nl) 41)
  obtain ⟨kb, hkb⟩ : ∃ kb, kb = w.heap.size := ⟨_, rfl⟩
  rw [← hkb] at Hk0
  have HB := Lib.hid (And.intro hb1 k9a)
  have Hkb := Lib.hid hkb
  clear hops hk0 ho0 hb k9a hb1 k9
  conv => arg 2; whnf
  go_wp2_with fail
  rw [← Hkb.out]
  go_loopw [87] (fun i wr => ∃ j : Nat, i = .int .i64 j ∧ j ≤ len ∧ (∃ kk D X L, wr.heap[pb]? = some (pgo kk D X (str L))) ∧ (∃ o V U Xs vI vW, Book w0.heap.size kb j wr o V U Xs vI vW ∧ o pb = 1000 ∧ ∀ i, i < j → (Xs i).length ≤ 32) ∧ Below w0.heap.size w0 wr) (fun i _ => len - (intOf i).toNat)
  case atStart => exact ⟨0, rfl, Nat.zero_le _, ⟨_, _, _, _, HB.out.2⟩, ⟨_, _, _, _, _, _, Hk0.out.1, Hk0.out.2, fun i hi => absurd hi (by omega)⟩, HB.out.1⟩
  case round =>
    clear Hk0 HB z9 hkb hbz
    obtain ⟨j, rfl, hj, ⟨kk, D, X, L, k9⟩, ⟨o, V, U, Xs, vI, vW, hk, ho, hX⟩, hbel⟩ := hrel
    have Hk := Lib.hid hk
    have Ho := Lib.hid ho
    have HX := Lib.hid hX
    clear hk ho hX
    by_cases hlt : j < len
    · obtain ⟨b, off, rfl, _, hc⟩ := (Hops.out.below hbel) (by omega)
      have a0 := hc j hlt 0 (by omega)
      have a1 := hc j hlt 1 (by omega)
      have a2 := hc j hlt 2 (by omega)
      have a3 := hc j hlt 3 (by omega)
      rw [Nat.add_zero] at a0
      generalize Fo j 0 = kd at a0
      generalize Fo j 1 = bt at a1
      generalize Fo j 2 = dp at a2
      generalize Fo j 3 = nn at a3
      obtain ⟨good, xs, hs⟩ := seen_any kk D X L
      have he := Lib.hid hs.entries
      have HS := Lib.hid hs
      have z9 := lt_of_block k9
      have c9 := blk_cell (hal (o := .cells #[.int .i64 kd, .int .i64 bt, .int .i64 dp, .int .i64 nn] 43) k9)
      clear hc hs
      have k14 : (wr.alloc (.cells #[.int .i64 kd, .int .i64 bt, .int .i64 dp, .int .i64 nn] 43)).heap[wr.heap.size]? = some (opo kd bt dp nn) := heap_alloc_new wr _
      have k9a : (wr.alloc (.cells #[.int .i64 kd, .int .i64 bt, .int .i64 dp, .int .i64 nn] 43)).heap[pb]? = some (pgo kk D X (str L)) := hal k9
      have hw1 : (wr.alloc (.cells #[.int .i64 kd, .int .i64 bt, .int .i64 dp, .int .i64 nn] 43)).heap.size = wr.heap.size + 1 := by simp
      go_wp2_with fail
      with_reducible refine (he.out _).mono ?_
      rintro e w2 ⟨v, rfl, hrow, ⟨A1, n1, c1, rfl⟩, hb2⟩
      have k9b := blk_keep k9a hb2
      have k14b := blk_keep k14 hb2
      have hz2 : wr.heap.size + 1 ≤ w2.heap.size := by have := hb2.size; omega
      have hbr : Below wr.heap.size wr w2 := below_box hb2
      have Hrow := Lib.hid hrow
      obtain ⟨ob, hob⟩ : ∃ ob, ob = wr.heap.size := ⟨_, rfl⟩
      rw [← hob] at k14b ⊢
      have Hob := Lib.hid hob
      have hpo : pb < ob := by omega
      clear hrow k9a k14 hb2 c9 hob
      cases good
      · have x0 := True.intro
        have c14 := blk_cell k14b
        have z14 := lt_of_block k14b
        go_upto_block 2 with fail
        clear c14
        obtain ⟨w3, hw3⟩ : ∃ w3, w3 = (w2.alloc (.cells #[.int .i64 0, .int .i64 0, .int .i64 0, .string ⟨#[]⟩] 23)).alloc (.cells #[.int .i64 0, .int .i64 0, .int .i64 0, .string ⟨#[]⟩] 23) := ⟨_, rfl⟩
        refine wp_world hw3 ?_
        have hsz3 : w3.heap.size = w2.heap.size + 2 := by rw [hw3]; simp
        have m9 : w3.heap[pb]? = some (pgo kk D X (str L)) := by rw [hw3]; exact hal (hal k9b)
        have m14 : w3.heap[ob]? = some (opo kd bt dp nn) := by rw [hw3]; exact hal (hal k14b)
        have m17 : w3.heap[w2.heap.size]? = some (pgo 0 0 0 ⟨#[]⟩) := by rw [hw3]; exact hal (heap_alloc_new w2 _)
        have m18 : w3.heap[w2.heap.size + 1]? = some (pgo 0 0 0 ⟨#[]⟩) := by
          rw [hw3]
          have := heap_alloc_new (w2.alloc (.cells #[.int .i64 0, .int .i64 0, .int .i64 0, .string ⟨#[]⟩] 23)) (.cells #[.int .i64 0, .int .i64 0, .int .i64 0, .string ⟨#[]⟩] 23)
          simpa using this
        have hbr3 : Below wr.heap.size wr w3 := by rw [hw3]; exact (hbr.alloc (by omega) _).alloc (by simp; omega) _
        have hrb : Rb w3 ob pb ob w2.heap.size (w2.heap.size + 1) kk D X L kd bt dp nn := ⟨m9, m14, m17, m18, by have := Hob.out; omega⟩
        have hhv : Have w3 (.slice none 0 0) false xs := by
          have := (HS.out.no rfl).2
          subst this
          exact ⟨none, 0, rfl, Nat.le_refl _, ⟨rfl, by simp, fun h => absurd h (by simp)⟩, fun _ => rfl⟩
        have hhn : ∀ b off n c, (Value.slice none 0 0) = .slice (some ⟨b, off, none⟩) n c → b ≠ w2.heap.size := fun b off n c h => by cases h
        have Hhv := Lib.hid hhv
        have Hhn := Lib.hid hhn
        have Hrb := Lib.hid hrb
        have Hbr := Lib.hid hbr3
        have Hm9 := Lib.hid m9
        have Hz3 := Lib.hid hsz3
        have Hz2 := Lib.hid hz2
        clear hhv hhn hrb hbr3 m9 m14 m17 m18 hw3 k9b k14b hbr z14 hsz3
        refine sw_any w3 ob pb ob w2.heap.size (w2.heap.size + 1) kk D X L kd bt dp nn false xs _ _ HS.out rfl Hrb.out Hhv.out Hhn.out _ _ _ _ _ _ _ _ _ _ _ _ _ _ _ _ _ _ _ _ _ _ _ _ _ _ _ _ _ _ _ _ _ _ _ _ _ _ _ _ _ _ _ _ _ _ _ _ _ _ _ _ _ _ _ _ _ _ _ _ _ _ _ _ _ _ _ _ _ _ _ _ _ _ _ _ _ _ _ _ _ _ _ _ _ _ _ _ _ _ _ _ _ _ _ _ _ _ _ _ _ _ _ _ _ _ _ _ _ _ _ _ _ _ _ _ _ _ _ _ _ _ _ _ _ _ _ _ _ _ _ _ _ _ _ _ _ _ _ _ _ _ _ _ _ _ _ _ _ _ _ _ _ _ _ _ _ _ _ _ _ _ _ _ _ _ _ _ _ _ _ _ _ _ _ _ _ _ _ _ _ _ _ _ _ _ _ _ _ _ _ _ _ _ _ _ _ _ _ _ _ _ _ _ _ _ _ _ _ _ _ _ _ _ _ _ _ _ _ _ _ _ _ _ _ _ _ _ _ _ _ _ _ _ _ _ _ _ _ _ _ _ _ _ _ _ _ _ _ _ _ _ _ _ _ _ _ _ _ _ _ _ _ _ _ _ _ _ _ _ _ _ _ _ _ _ _ _ _ _ _ _ _ _ _ _ _ _ _ _ _ _ _ _ _ _ _ _ _ _ _ _ _ _ _ _ _ _ _ _ _ _ _ (Lib.hid (fun c a d v w h => by cases d <;> exact h)) (Lib.hid ?_)
        intro v21 v22 v23 v102 v103 v104 v105 v106 v107 v108 v109 v110 v111 v112 v113 v114 v115 v116 v117 v118 v119 v120 v121 v122 v123 v124 v125 v126 v127 v128 v129 v130 v131 v132 v133 v134 v135 v136 v137 v138 v139 v140 v141 v142 v143 v144 v145 v146 v147 v148 v149 v150 v151 v152 v153 v154 v155 v156 v157 v158 v159 v160 v161 v162 v163 v164 v165 v166 v167 v168 v169 v170 v171 v172 v173 v174 v175 v176 v177 v178 v179 v180 v181 v182 v183 v184 v185 v186 v187 v188 v189 v190 v191 v192 v193 v194 v195 v196 v197 v198 v199 v200 v201 v202 v203 v204 v205 v206 v207 v208 v209 v210 v211 v212 v213 v214 v215 v216 v217 v218 v219 v220 v221 v222 v223 v224 v225 v226 v227 v228 v229 v230 v231 v232 v233 v234 v235 v236 v237 v238 v239 E k' D' X' L' w4 hdn
        have n9 : w4.heap[pb]? = some (pgo kk D X (str L)) := (hdn.bel.block pb hpo).trans Hm9.out
        have n14 := hdn.k14
        have n17 := hdn.k17
        have n18 := hdn.k18
        have hbr4 : Hid (Below wr.heap.size wr w4) := Lib.hid (Hbr.out.trans (by rw [← Hob.out]; exact hdn.bel))
        have c9 := blk_cell n9
        have z9 := lt_of_block n9
        have c9f := blk_free n9
        have c17 := blk_cell n17
        have z17 := lt_of_block n17
        have c18 := blk_cell n18
        have z18 := lt_of_block n18
        have eEE : (E == E) = true := by simp
        have Hn := Lib.hid (And.intro n9 n14)
        clear hdn n9 n14 n17 n18
        dsimp only [Exit.then]
        apply_assumption
        refine wp_seq_k fun Ka hKa0 => ?_
        have hKa := Lib.hid hKa0
        clear hKa0
        go_wp2_with fail
        refine hKa.out _ _ ?_
        clear hKa Ka
        refine wp_seq_k fun Ka hKa0 => ?_
        have hKa := Lib.hid hKa0
        clear hKa0
        have hk4 : Book w0.heap.size kb j w4 (ext o wr.heap.size 1000) V U Xs vI vW := (Hk.out.retag (o' := ext o wr.heap.size 1000) (fun k h => ext_lt h)).below hbr4.out
        have ho4 : ext o wr.heap.size 1000 pb = 1000 := by
          have := Hob.out
          rw [ext_lt (by omega)]
          exact Ho.out
        have ho4' : ext o wr.heap.size 1000 ob = 1000 := ext_ge (by have := Hob.out; omega)
        have hpq : pb ≠ w2.heap.size := by have := Hz2.out; have := Hob.out; omega
        have hb4 : Below w0.heap.size w0 w4 := below_base hbel hbel.size hbr4.out
        have Hk4 := Lib.hid hk4
        have Ho4 := Lib.hid (And.intro ho4 ho4')
        have Hb4 := Lib.hid hb4
        clear hk4 ho4 ho4' hb4
        by_cases hE : E = 0
        · have dE : (E == 0) = true := by simpa using hE
          have dE' : decide (E = 0) = true := by simpa using hE
          have HE := Lib.hid hE
          clear hE
          go_wp2_with fail
          refine hKa.out _ _ ?_
          clear hKa Ka
          obtain ⟨w5, hw5⟩ : ∃ w5, w5 = set4 w4 pb (.int .i64 k') (.int .i64 D') (.int .i64 X') (.string (str L')) := ⟨_, rfl⟩
          refine wp_world hw5 ?_
          have hk5 : Book w0.heap.size kb j w5 (ext o wr.heap.size 1000) V U Xs vI vW := by rw [hw5]; exact Hk4.out.other4 (by omega) Ho4.out.1 _ _ _ _
          have q9 : w5.heap[pb]? = some (pgo k' D' X' (str L')) := by rw [hw5]; exact set4_same Hn.out.1 _ _ _ _
          have q14 : w5.heap[ob]? = some (opo kd bt dp nn) := by rw [hw5]; exact hs4 Hn.out.2 (by omega)
          have hb5 : Below w0.heap.size w0 w5 := by rw [hw5]; exact below_set4 Hb4.out hpb _ _ _ _
          have Hb5 := Lib.hid hb5
          clear c9 z9 c9f c17 z17 c18 z18
          refine t51_any w5 w0.heap.size pb kb ob j k' D' X' L' kd bt dp nn _ V U Xs vI vW hk5 HX.out Ho4.out.1 Ho4.out.2 hb5.size (by omega) q9 q14 _ _ _ _ _ _ _ _ _ _ _ _ _ _ _ _ _ _ _ _ _ _ _ _ _ _ _ _ _ _ _ _ _ _ _ _ _ _ _ _ _ _ _ _ _ _ _ _ _ _ _ _ _ _ _ _ _ _ _ _ _ _ _ _ _ _ _ _ _ _ _ _ _ _ _ _ _ _ _ _ _ _ _ _ _ _ _ _ _ _ _ _ _ _ _ _ _ _ _ _ _ _ _ _ _ _ _ _ _ _ _ _ _ _ _ _ _ _ _ _ _ _ _ _ _ _ _ _ _ _ _ _ _ _ _ _ _ _ _ _ _ _ _ _ _ _ _ _ _ _ _ _ _ _ _ _ _ _ _ _ _ _ _ _ _ _ _ _ _ _ _ _ _ _ _ _ _ _ _ _ _ _ _ _ _ _ _ _ _ _ _ _ _ _ _ _ _ _ _ _ _ _ _ _ _ _ _ _ _ _ _ _ _ _ _ _ _ _ _ _ _ _ _ _ _ _ _ _ _ _ _ _ _ _ _ _ _ _ _ _ _ _ _ _ _ _ _ _ _ _ _ _ _ _ _ _ _ _ _ _ _ _ _ _ _ _ _ _ _ _ _ _ _ _ _ _ _ _ _ _ _ _ _ _ _ _ _ _ _ _ _ _ _ _ _ _ _ _ _ _ _ _ _ _ _ _ _ _ _ _ _ _ _ _ _ _ _ _ _ (Lib.hid ?_)
          intro v8 v15 v16 v24 v25 v26 v27 v28 v251 v252 v253 v254 v255 v256 v257 v258 v259 v260 v261 v262 v263 v264 v265 v266 v267 v268 v269 v270 v271 v272 v273 v274 v275 v276 v277 v278 v279 v280 v281 v282 v283 v284 v285 v286 v287 v288 v289 v290 v291 v292 v293 v294 v295 v296 v297 v298 v299 v300 v301 v302 v303 v304 v305 v306 v307 v308 v309 v310 v311 v312 v313 v314 v315 v316 v317 o' V' U' Xs' vI' vW' w6 hk6 hX6 ho6 hk9 hb6
          have Hfin := Lib.hid (And.intro hk6 (And.intro ho6 (And.intro hX6 (And.intro hk9 (Hb5.out.trans hb6)))))
          clear hk6 hX6 ho6 hk9 hb6 hk5 q9 q14 hb5 hw5
          have i1 : IntKind.i64.wrap ((j : Int) + 1) = (j : Int) + 1 := IntWalk.i64_in _ (by omega)
          go_wp2_with fail
          go_roundw
          case rel => exact ⟨j + 1, by go_num, by omega, ⟨_, _, _, _, Hfin.out.2.2.2.1⟩, ⟨_, _, _, _, _, _, Hfin.out.1, Hfin.out.2.1, Hfin.out.2.2.1⟩, Hfin.out.2.2.2.2⟩
          case measure => clear i1; simp [intOf]; omega
        · have dE : (E == 0) = false := by simpa using hE
          have dE' : decide (E = 0) = false := by simpa using hE
          have HE := Lib.hid hE
          clear hE
          go_wp2_with fail
          refine hKa.out _ _ ?_
          clear hKa Ka
          clear c9 z9 c9f c17 z17 c18 z18
          refine t51_any w4 w0.heap.size pb kb ob j kk D X L kd bt dp nn _ V U Xs vI vW Hk4.out HX.out Ho4.out.1 Ho4.out.2 Hb4.out.size (by omega) Hn.out.1 Hn.out.2 _ _ _ _ _ _ _ _ _ _ _ _ _ _ _ _ _ _ _ _ _ _ _ _ _ _ _ _ _ _ _ _ _ _ _ _ _ _ _ _ _ _ _ _ _ _ _ _ _ _ _ _ _ _ _ _ _ _ _ _ _ _ _ _ _ _ _ _ _ _ _ _ _ _ _ _ _ _ _ _ _ _ _ _ _ _ _ _ _ _ _ _ _ _ _ _ _ _ _ _ _ _ _ _ _ _ _ _ _ _ _ _ _ _ _ _ _ _ _ _ _ _ _ _ _ _ _ _ _ _ _ _ _ _ _ _ _ _ _ _ _ _ _ _ _ _ _ _ _ _ _ _ _ _ _ _ _ _ _ _ _ _ _ _ _ _ _ _ _ _ _ _ _ _ _ _ _ _ _ _ _ _ _ _ _ _ _ _ _ _ _ _ _ _ _ _ _ _ _ _ _ _ _ _ _ _ _ _ _ _ _ _ _ _ _ _ _ _ _ _ _ _ _ _ _ _ _ _ _ _ _ _ _ _ _ _ _ _ _ _ _ _ _ _ _ _ _ _ _ _ _ _ _ _ _ _ _ _ _ _ _ _ _ _ _ _ _ _ _ _ _ _ _ _ _ _ _ _ _ _ _ _ _ _ _ _ _ _ _ _ _ _ _ _ _ _ _ _ _ _ _ _ _ _ _ _ _ _ _ _ _ _ _ _ _ _ _ _ _ (Lib.hid ?_)
          intro v8 v15 v16 v24 v25 v26 v27 v28 v251 v252 v253 v254 v255 v256 v257 v258 v259 v260 v261 v262 v263 v264 v265 v266 v267 v268 v269 v270 v271 v272 v273 v274 v275 v276 v277 v278 v279 v280 v281 v282 v283 v284 v285 v286 v287 v288 v289 v290 v291 v292 v293 v294 v295 v296 v297 v298 v299 v300 v301 v302 v303 v304 v305 v306 v307 v308 v309 v310 v311 v312 v313 v314 v315 v316 v317 o' V' U' Xs' vI' vW' w6 hk6 hX6 ho6 hk9 hb6
          have Hfin := Lib.hid (And.intro hk6 (And.intro ho6 (And.intro hX6 (And.intro hk9 (Hb4.out.trans hb6)))))
          clear hk6 hX6 ho6 hk9 hb6
          have i1 : IntKind.i64.wrap ((j : Int) + 1) = (j : Int) + 1 := IntWalk.i64_in _ (by omega)
          go_wp2_with fail
          go_roundw
          case rel => exact ⟨j + 1, by go_num, by omega, ⟨_, _, _, _, Hfin.out.2.2.2.1⟩, ⟨_, _, _, _, _, _, Hfin.out.1, Hfin.out.2.1, Hfin.out.2.2.1⟩, Hfin.out.2.2.2.2⟩
          case measure => clear i1; simp [intOf]; omega
      · have x0 := True.intro
        have c14 := blk_cell k14b
        have z14 := lt_of_block k14b
        go_upto_block 2 with fail
        clear c14
        obtain ⟨w3, hw3⟩ : ∃ w3, w3 = (w2.alloc (.cells #[.int .i64 0, .int .i64 0, .int .i64 0, .string ⟨#[]⟩] 23)).alloc (.cells #[.int .i64 0, .int .i64 0, .int .i64 0, .string ⟨#[]⟩] 23) := ⟨_, rfl⟩
        refine wp_world hw3 ?_
        have hsz3 : w3.heap.size = w2.heap.size + 2 := by rw [hw3]; simp
        have m9 : w3.heap[pb]? = some (pgo kk D X (str L)) := by rw [hw3]; exact hal (hal k9b)
        have m14 : w3.heap[ob]? = some (opo kd bt dp nn) := by rw [hw3]; exact hal (hal k14b)
        have m17 : w3.heap[w2.heap.size]? = some (pgo 0 0 0 ⟨#[]⟩) := by rw [hw3]; exact hal (heap_alloc_new w2 _)
        have m18 : w3.heap[w2.heap.size + 1]? = some (pgo 0 0 0 ⟨#[]⟩) := by
          rw [hw3]
          have := heap_alloc_new (w2.alloc (.cells #[.int .i64 0, .int .i64 0, .int .i64 0, .string ⟨#[]⟩] 23)) (.cells #[.int .i64 0, .int .i64 0, .int .i64 0, .string ⟨#[]⟩] 23)
          simpa using this
        have hbr3 : Below wr.heap.size wr w3 := by rw [hw3]; exact (hbr.alloc (by omega) _).alloc (by simp; omega) _
        have hrb : Rb w3 ob pb ob w2.heap.size (w2.heap.size + 1) kk D X L kd bt dp nn := ⟨m9, m14, m17, m18, by have := Hob.out; omega⟩
        have hr := Hrow.out (by simp)
        have h1n := ((HS.out.dir rfl).1).le
        obtain ⟨g, cg, hvg, hgB, hgl⟩ := hr.form (by omega)
        injection hvg with e1 e2 e3
        subst e1
        subst e2
        subst e3
        have hcg := (own_cap hr).2
        obtain ⟨A', c', hA', hI⟩ := ints_of_own hr
        injection hA' with f1 _ f3
        subst f1
        subst f3
        have hhv : Have w3 (.slice (some ⟨g, 0, none⟩) xs.length c1) true xs := ⟨_, _, rfl, hcg, by rw [hw3]; exact (hI.below (below_al (Below.refl _ _) _)).below (below_al (Below.refl _ _) _), fun h => by cases h⟩
        have hhn : ∀ b off n c, (Value.slice (some ⟨g, 0, none⟩) xs.length c1) = .slice (some ⟨b, off, none⟩) n c → b ≠ w2.heap.size := fun b off n c h => by
          injection h with h _ _
          injection h with h
          injection h with h _ _
          omega
        have Hhv := Lib.hid hhv
        have Hhn := Lib.hid hhn
        have Hrb := Lib.hid hrb
        have Hbr := Lib.hid hbr3
        have Hm9 := Lib.hid m9
        have Hz3 := Lib.hid hsz3
        have Hz2 := Lib.hid hz2
        clear hhv hhn hrb hbr3 m9 m14 m17 m18 hw3 k9b k14b hbr z14 hsz3
        refine sw_any w3 ob pb ob w2.heap.size (w2.heap.size + 1) kk D X L kd bt dp nn true xs _ _ HS.out rfl Hrb.out Hhv.out Hhn.out _ _ _ _ _ _ _ _ _ _ _ _ _ _ _ _ _ _ _ _ _ _ _ _ _ _ _ _ _ _ _ _ _ _ _ _ _ _ _ _ _ _ _ _ _ _ _ _ _ _ _ _ _ _ _ _ _ _ _ _ _ _ _ _ _ _ _ _ _ _ _ _ _ _ _ _ _ _ _ _ _ _ _ _ _ _ _ _ _ _ _ _ _ _ _ _ _ _ _ _ _ _ _ _ _ _ _ _ _ _ _ _ _ _ _ _ _ _ _ _ _ _ _ _ _ _ _ _ _ _ _ _ _ _ _ _ _ _ _ _ _ _ _ _ _ _ _ _ _ _ _ _ _ _ _ _ _ _ _ _ _ _ _ _ _ _ _ _ _ _ _ _ _ _ _ _ _ _ _ _ _ _ _ _ _ _ _ _ _ _ _ _ _ _ _ _ _ _ _ _ _ _ _ _ _ _ _ _ _ _ _ _ _ _ _ _ _ _ _ _ _ _ _ _ _ _ _ _ _ _ _ _ _ _ _ _ _ _ _ _ _ _ _ _ _ _ _ _ _ _ _ _ _ _ _ _ _ _ _ _ _ _ _ _ _ _ _ _ _ _ _ _ _ _ _ _ _ _ _ _ _ _ _ _ _ _ _ _ _ _ _ _ _ _ _ _ _ _ _ _ _ _ _ _ _ _ _ _ _ _ _ _ _ (Lib.hid (fun c a d v w h => by cases d <;> exact h)) (Lib.hid ?_)
        intro v21 v22 v23 v102 v103 v104 v105 v106 v107 v108 v109 v110 v111 v112 v113 v114 v115 v116 v117 v118 v119 v120 v121 v122 v123 v124 v125 v126 v127 v128 v129 v130 v131 v132 v133 v134 v135 v136 v137 v138 v139 v140 v141 v142 v143 v144 v145 v146 v147 v148 v149 v150 v151 v152 v153 v154 v155 v156 v157 v158 v159 v160 v161 v162 v163 v164 v165 v166 v167 v168 v169 v170 v171 v172 v173 v174 v175 v176 v177 v178 v179 v180 v181 v182 v183 v184 v185 v186 v187 v188 v189 v190 v191 v192 v193 v194 v195 v196 v197 v198 v199 v200 v201 v202 v203 v204 v205 v206 v207 v208 v209 v210 v211 v212 v213 v214 v215 v216 v217 v218 v219 v220 v221 v222 v223 v224 v225 v226 v227 v228 v229 v230 v231 v232 v233 v234 v235 v236 v237 v238 v239 E k' D' X' L' w4 hdn
        have n9 : w4.heap[pb]? = some (pgo kk D X (str L)) := (hdn.bel.block pb hpo).trans Hm9.out
        have n14 := hdn.k14
        have n17 := hdn.k17
        have n18 := hdn.k18
        have hbr4 : Hid (Below wr.heap.size wr w4) := Lib.hid (Hbr.out.trans (by rw [← Hob.out]; exact hdn.bel))
        have c9 := blk_cell n9
        have z9 := lt_of_block n9
        have c9f := blk_free n9
        have c17 := blk_cell n17
        have z17 := lt_of_block n17
        have c18 := blk_cell n18
        have z18 := lt_of_block n18
        have eEE : (E == E) = true := by simp
        have Hn := Lib.hid (And.intro n9 n14)
        clear hdn n9 n14 n17 n18
        dsimp only [Exit.then]
        apply_assumption
        refine wp_seq_k fun Ka hKa0 => ?_
        have hKa := Lib.hid hKa0
        clear hKa0
        go_wp2_with fail
        refine hKa.out _ _ ?_
        clear hKa Ka
        refine wp_seq_k fun Ka hKa0 => ?_
        have hKa := Lib.hid hKa0
        clear hKa0
        have hk4 : Book w0.heap.size kb j w4 (ext o wr.heap.size 1000) V U Xs vI vW := (Hk.out.retag (o' := ext o wr.heap.size 1000) (fun k h => ext_lt h)).below hbr4.out
        have ho4 : ext o wr.heap.size 1000 pb = 1000 := by
          have := Hob.out
          rw [ext_lt (by omega)]
          exact Ho.out
        have ho4' : ext o wr.heap.size 1000 ob = 1000 := ext_ge (by have := Hob.out; omega)
        have hpq : pb ≠ w2.heap.size := by have := Hz2.out; have := Hob.out; omega
        have hb4 : Below w0.heap.size w0 w4 := below_base hbel hbel.size hbr4.out
        have Hk4 := Lib.hid hk4
        have Ho4 := Lib.hid (And.intro ho4 ho4')
        have Hb4 := Lib.hid hb4
        clear hk4 ho4 ho4' hb4
        by_cases hE : E = 0
        · have dE : (E == 0) = true := by simpa using hE
          have dE' : decide (E = 0) = true := by simpa using hE
          have HE := Lib.hid hE
          clear hE
          go_wp2_with fail
          refine hKa.out _ _ ?_
          clear hKa Ka
          obtain ⟨w5, hw5⟩ : ∃ w5, w5 = set4 w4 pb (.int .i64 k') (.int .i64 D') (.int .i64 X') (.string (str L')) := ⟨_, rfl⟩
          refine wp_world hw5 ?_
          have hk5 : Book w0.heap.size kb j w5 (ext o wr.heap.size 1000) V U Xs vI vW := by rw [hw5]; exact Hk4.out.other4 (by omega) Ho4.out.1 _ _ _ _
          have q9 : w5.heap[pb]? = some (pgo k' D' X' (str L')) := by rw [hw5]; exact set4_same Hn.out.1 _ _ _ _
          have q14 : w5.heap[ob]? = some (opo kd bt dp nn) := by rw [hw5]; exact hs4 Hn.out.2 (by omega)
          have hb5 : Below w0.heap.size w0 w5 := by rw [hw5]; exact below_set4 Hb4.out hpb _ _ _ _
          have Hb5 := Lib.hid hb5
          clear c9 z9 c9f c17 z17 c18 z18
          refine t51_any w5 w0.heap.size pb kb ob j k' D' X' L' kd bt dp nn _ V U Xs vI vW hk5 HX.out Ho4.out.1 Ho4.out.2 hb5.size (by omega) q9 q14 _ _ _ _ _ _ _ _ _ _ _ _ _ _ _ _ _ _ _ _ _ _ _ _ _ _ _ _ _ _ _ _ _ _ _ _ _ _ _ _ _ _ _ _ _ _ _ _ _ _ _ _ _ _ _ _ _ _ _ _ _ _ _ _ _ _ _ _ _ _ _ _ _ _ _ _ _ _ _ _ _ _ _ _ _ _ _ _ _ _ _ _ _ _ _ _ _ _ _ _ _ _ _ _ _ _ _ _ _ _ _ _ _ _ _ _ _ _ _ _ _ _ _ _ _ _ _ _ _ _ _ _ _ _ _ _ _ _ _ _ _ _ _ _ _ _ _ _ _ _ _ _ _ _ _ _ _ _ _ _ _ _ _ _ _ _ _ _ _ _ _ _ _ _ _ _ _ _ _ _ _ _ _ _ _ _ _ _ _ _ _ _ _ _ _ _ _ _ _ _ _ _ _ _ _ _ _ _ _ _ _ _ _ _ _ _ _ _ _ _ _ _ _ _ _ _ _ _ _ _ _ _ _ _ _ _ _ _ _ _ _ _ _ _ _ _ _ _ _ _ _ _ _ _ _ _ _ _ _ _ _ _ _ _ _ _ _ _ _ _ _ _ _ _ _ _ _ _ _ _ _ _ _ _ _ _ _ _ _ _ _ _ _ _ _ _ _ _ _ _ _ _ _ _ _ _ _ _ _ _ _ _ _ _ _ _ _ _ _ (Lib.hid ?_)
          intro v8 v15 v16 v24 v25 v26 v27 v28 v251 v252 v253 v254 v255 v256 v257 v258 v259 v260 v261 v262 v263 v264 v265 v266 v267 v268 v269 v270 v271 v272 v273 v274 v275 v276 v277 v278 v279 v280 v281 v282 v283 v284 v285 v286 v287 v288 v289 v290 v291 v292 v293 v294 v295 v296 v297 v298 v299 v300 v301 v302 v303 v304 v305 v306 v307 v308 v309 v310 v311 v312 v313 v314 v315 v316 v317 o' V' U' Xs' vI' vW' w6 hk6 hX6 ho6 hk9 hb6
          have Hfin := Lib.hid (And.intro hk6 (And.intro ho6 (And.intro hX6 (And.intro hk9 (Hb5.out.trans hb6)))))
          clear hk6 hX6 ho6 hk9 hb6 hk5 q9 q14 hb5 hw5
          have i1 : IntKind.i64.wrap ((j : Int) + 1) = (j : Int) + 1 := IntWalk.i64_in _ (by omega)
          go_wp2_with fail
          go_roundw
          case rel => exact ⟨j + 1, by go_num, by omega, ⟨_, _, _, _, Hfin.out.2.2.2.1⟩, ⟨_, _, _, _, _, _, Hfin.out.1, Hfin.out.2.1, Hfin.out.2.2.1⟩, Hfin.out.2.2.2.2⟩
          case measure => clear i1; simp [intOf]; omega
        · have dE : (E == 0) = false := by simpa using hE
          have dE' : decide (E = 0) = false := by simpa using hE
          have HE := Lib.hid hE
          clear hE
          go_wp2_with fail
          refine hKa.out _ _ ?_
          clear hKa Ka
          clear c9 z9 c9f c17 z17 c18 z18
          refine t51_any w4 w0.heap.size pb kb ob j kk D X L kd bt dp nn _ V U Xs vI vW Hk4.out HX.out Ho4.out.1 Ho4.out.2 Hb4.out.size (by omega) Hn.out.1 Hn.out.2 _ _ _ _ _ _ _ _ _ _ _ _ _ _ _ _ _ _ _ _ _ _ _ _ _ _ _ _ _ _ _ _ _ _ _ _ _ _ _ _ _ _ _ _ _ _ _ _ _ _ _ _ _ _ _ _ _ _ _ _ _ _ _ _ _ _ _ _ _ _ _ _ _ _ _ _ _ _ _ _ _ _ _ _ _ _ _ _ _ _ _ _ _ _ _ _ _ _ _ _ _ _ _ _ _ _ _ _ _ _ _ _ _ _ _ _ _ _ _ _ _ _ _ _ _ _ _ _ _ _ _ _ _ _ _ _ _ _ _ _ _ _ _ _ _ _ _ _ _ _ _ _ _ _ _ _ _ _ _ _ _ _ _ _ _ _ _ _ _ _ _ _ _ _ _ _ _ _ _ _ _ _ _ _ _ _ _ _ _ _ _ _ _ _ _ _ _ _ _ _ _ _ _ _ _ _ _ _ _ _ _ _ _ _ _ _ _ _ _ _ _ _ _ _ _ _ _ _ _ _ _ _ _ _ _ _ _ _ _ _ _ _ _ _ _ _ _ _ _ _ _ _ _ _ _ _ _ _ _ _ _ _ _ _ _ _ _ _ _ _ _ _ _ _ _ _ _ _ _ _ _ _ _ _ _ _ _ _ _ _ _ _ _ _ _ _ _ _ _ _ _ _ _ _ _ _ _ _ _ _ _ _ _ _ _ _ _ _ _ (Lib.hid ?_)
          intro v8 v15 v16 v24 v25 v26 v27 v28 v251 v252 v253 v254 v255 v256 v257 v258 v259 v260 v261 v262 v263 v264 v265 v266 v267 v268 v269 v270 v271 v272 v273 v274 v275 v276 v277 v278 v279 v280 v281 v282 v283 v284 v285 v286 v287 v288 v289 v290 v291 v292 v293 v294 v295 v296 v297 v298 v299 v300 v301 v302 v303 v304 v305 v306 v307 v308 v309 v310 v311 v312 v313 v314 v315 v316 v317 o' V' U' Xs' vI' vW' w6 hk6 hX6 ho6 hk9 hb6
          have Hfin := Lib.hid (And.intro hk6 (And.intro ho6 (And.intro hX6 (And.intro hk9 (Hb4.out.trans hb6)))))
          clear hk6 hX6 ho6 hk9 hb6
          have i1 : IntKind.i64.wrap ((j : Int) + 1) = (j : Int) + 1 := IntWalk.i64_in _ (by omega)
          go_wp2_with fail
          go_roundw
          case rel => exact ⟨j + 1, by go_num, by omega, ⟨_, _, _, _, Hfin.out.2.2.2.1⟩, ⟨_, _, _, _, _, _, Hfin.out.1, Hfin.out.2.1, Hfin.out.2.2.1⟩, Hfin.out.2.2.2.2⟩
          case measure => clear i1; simp [intOf]; omega
    · obtain rfl : len = j := by omega
      go_wp2_with fail
      with_reducible refine (Bk.apart_any Hk.out hbel.size (by omega) (fun i hi => by have := HX.out i hi; omega)).mono ?_
      rintro e w9 ⟨rfl, hb9⟩
      go_wp2_with fail
      go_ret
      exact ⟨rfl, hbel.trans hb9⟩
end Go.Proofs.YtlinolgbpnokcaaGreatDoor.Dr
