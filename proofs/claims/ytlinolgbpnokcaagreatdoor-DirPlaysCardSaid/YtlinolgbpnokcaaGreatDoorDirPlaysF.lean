/- DirPlays: behind what was done; no directory. (Printed by tools/gen_dp.py.) -/
import Derived.Test.YtlinolgbpnokcaaGreatDoorDirPlays0
import Derived.Deep.Cut
import Derived.Deep.CutRange
import Derived.Deep.CutBlock
import Derived.Deep.DeepCutAuto
import Derived.RegionTactic
import Derived.Deep.RegionLaw
import Derived.Deep.RegionLawGrows
import Derived.Deep.RegionHeld
namespace Go.Proofs.YtlinolgbpnokcaaGreatDoor.Dr
open Go.RowKit Go.Proofs.YtlinolgbpnokcaaGreatDoor.Mem Go.Proofs.YtlinolgbpnokcaaGreatDoor.Pg Go.Proofs.YtlinolgbpnokcaaGreatDoor.Bk
set_option linter.unusedSimpArgs false
set_option linter.unusedVariables false
set_option maxRecDepth 1000000 in
set_option maxHeartbeats 8000000 in
theorem t51_no (w : World) (B pb kb ob j : Nat) (kk D X : Int) (L : List UInt8) (kd bt dp nn : Int) (good : Bool) (xs : List Int) (hs : Seen kk D X L good xs) (o : Nat → Nat) (V U : Nat → Value) (Xs : Nat → List Int) (vI vW : Value) (hk : Book B kb j w o V U Xs vI vW) (ho : o pb = 1000) (hoo : o ob = 1000) (hB : B ≤ w.heap.size) (hj : j ≤ 60) (k9 : w.heap[pb]? = some (pgo kk D X (str L))) (k14 : w.heap[ob]? = some (opo kd bt dp nn)) (Z : Int) (inb : Bool) (hZ : atN xs bt = Z) (hin : decide (0 ≤ bt ∧ bt < xs.length) = inb) (hg : good = false)
    (u0 u1 u2 u3 u4 u5 u6 u7 u8 u10 u11 u13 u15 u16 u17 u18 u19 u20 u21 u22 u23 u24 u25 u26 u27 u28 u29 u30 u31 u32 u33 u34 u35 u36 u37 u38 u39 u40 u41 u42 u43 u44 u45 u46 u47 u48 u49 u50 u51 u52 u53 u54 u55 u56 u57 u58 u59 u60 u61 u62 u63 u64 u65 u66 u67 u68 u69 u70 u71 u72 u73 u74 u75 u76 u77 u78 u79 u80 u81 u82 u83 u84 u85 u86 u87 u88 u89 u90 u91 u92 u93 u94 u95 u96 u97 u98 u99 u100 u101 u102 u103 u104 u105 u106 u107 u108 u109 u110 u111 u112 u113 u114 u115 u116 u117 u118 u119 u120 u121 u122 u123 u124 u125 u126 u127 u128 u129 u130 u131 u132 u133 u134 u135 u136 u137 u138 u139 u140 u141 u142 u143 u144 u145 u146 u147 u148 u149 u150 u151 u152 u153 u154 u155 u156 u157 u158 u159 u160 u161 u162 u163 u164 u165 u166 u167 u168 u169 u170 u171 u172 u173 u174 u175 u176 u177 u178 u179 u180 u181 u182 u183 u184 u185 u186 u187 u188 u189 u190 u191 u192 u193 u194 u195 u196 u197 u198 u199 u200 u201 u202 u203 u204 u205 u206 u207 u208 u209 u210 u211 u212 u213 u214 u215 u216 u217 u218 u219 u220 u221 u222 u223 u224 u225 u226 u227 u228 u229 u230 u231 u232 u233 u234 u235 u236 u237 u238 u239 u240 u241 u242 u243 u244 u245 u246 u247 u248 u249 u250 u251 u252 u253 u254 u255 u256 u257 u258 u259 u260 u261 u262 u263 u264 u265 u266 u267 u268 u269 u270 u271 u272 u273 u274 u275 u276 u277 u278 u279 u280 u281 u282 u283 u284 u285 u286 u287 u288 u289 u290 u291 u292 u293 u294 u295 u296 u297 u298 u299 u300 u301 u302 u303 u304 u305 u306 u307 u308 u309 u310 u311 u312 u313 u314 u315 u316 u317 u318 u319 u320 : Value) (R : Exit → Act → World → Prop)
    (hR : Hid (∀ (v8 v15 v16 v24 v25 v26 v27 v28 v251 v252 v253 v254 v255 v256 v257 v258 v259 v260 v261 v262 v263 v264 v265 v266 v267 v268 v269 v270 v271 v272 v273 v274 v275 v276 v277 v278 v279 v280 v281 v282 v283 v284 v285 v286 v287 v288 v289 v290 v291 v292 v293 v294 v295 v296 v297 v298 v299 v300 v301 v302 v303 v304 v305 v306 v307 v308 v309 v310 v311 v312 v313 v314 v315 v316 v317 : Value) (o' : Nat → Nat) (V' U' : Nat → Value) (vI' vW' : Value) (w' : World), Book B kb (j + 1) w' o' V' U' (upd Xs j xs) vI' vW' → o' pb = 1000 → w'.heap[pb]? = some (pgo kk D X (str L)) → Below B w w' → R .normal ⟨#[u0, u1, u2, u3, u4, u5, u6, u7, v8, .pointer (some ⟨pb, 0, none⟩), u10, u11, .pointer (some ⟨kb, 0, none⟩), u13, .pointer (some ⟨ob, 0, none⟩), v15, v16, u17, u18, u19, u20, u21, u22, u23, v24, v25, v26, v27, v28, u29, u30, u31, u32, u33, u34, u35, u36, u37, u38, u39, u40, u41, u42, u43, u44, u45, u46, u47, u48, u49, u50, u51, u52, u53, u54, u55, u56, u57, u58, u59, u60, u61, u62, u63, u64, u65, u66, u67, u68, u69, u70, u71, u72, u73, u74, u75, u76, u77, u78, u79, u80, u81, u82, u83, u84, u85, u86, u87, u88, u89, u90, u91, u92, u93, u94, u95, u96, u97, u98, u99, u100, u101, u102, u103, u104, u105, u106, u107, u108, u109, u110, u111, u112, u113, u114, u115, u116, u117, u118, u119, u120, u121, u122, u123, u124, u125, u126, u127, u128, u129, u130, u131, u132, u133, u134, u135, u136, u137, u138, u139, u140, u141, u142, u143, u144, u145, u146, u147, u148, u149, u150, u151, u152, u153, u154, u155, u156, u157, u158, u159, u160, u161, u162, u163, u164, u165, u166, u167, u168, u169, u170, u171, u172, u173, u174, u175, u176, u177, u178, u179, u180, u181, u182, u183, u184, u185, u186, u187, u188, u189, u190, u191, u192, u193, u194, u195, u196, u197, u198, u199, u200, u201, u202, u203, u204, u205, u206, u207, u208, u209, u210, u211, u212, u213, u214, u215, u216, u217, u218, u219, u220, u221, u222, u223, u224, u225, u226, u227, u228, u229, u230, u231, u232, u233, u234, u235, u236, u237, u238, u239, u240, u241, u242, u243, u244, u245, u246, u247, u248, u249, u250, v251, v252, v253, v254, v255, v256, v257, v258, v259, v260, v261, v262, v263, v264, v265, v266, v267, v268, v269, v270, v271, v272, v273, v274, v275, v276, v277, v278, v279, v280, v281, v282, v283, v284, v285, v286, v287, v288, v289, v290, v291, v292, v293, v294, v295, v296, v297, v298, v299, v300, v301, v302, v303, v304, v305, v306, v307, v308, v309, v310, v311, v312, v313, v314, v315, v316, v317, u318, u319, u320], []⟩ w')) :
    Code.wp Tryz.prog cT51 R ⟨#[u0, u1, u2, u3, u4, u5, u6, u7, u8, .pointer (some ⟨pb, 0, none⟩), u10, u11, .pointer (some ⟨kb, 0, none⟩), u13, .pointer (some ⟨ob, 0, none⟩), u15, u16, u17, u18, u19, u20, u21, u22, u23, u24, u25, u26, u27, u28, u29, u30, u31, u32, u33, u34, u35, u36, u37, u38, u39, u40, u41, u42, u43, u44, u45, u46, u47, u48, u49, u50, u51, u52, u53, u54, u55, u56, u57, u58, u59, u60, u61, u62, u63, u64, u65, u66, u67, u68, u69, u70, u71, u72, u73, u74, u75, u76, u77, u78, u79, u80, u81, u82, u83, u84, u85, u86, u87, u88, u89, u90, u91, u92, u93, u94, u95, u96, u97, u98, u99, u100, u101, u102, u103, u104, u105, u106, u107, u108, u109, u110, u111, u112, u113, u114, u115, u116, u117, u118, u119, u120, u121, u122, u123, u124, u125, u126, u127, u128, u129, u130, u131, u132, u133, u134, u135, u136, u137, u138, u139, u140, u141, u142, u143, u144, u145, u146, u147, u148, u149, u150, u151, u152, u153, u154, u155, u156, u157, u158, u159, u160, u161, u162, u163, u164, u165, u166, u167, u168, u169, u170, u171, u172, u173, u174, u175, u176, u177, u178, u179, u180, u181, u182, u183, u184, u185, u186, u187, u188, u189, u190, u191, u192, u193, u194, u195, u196, u197, u198, u199, u200, u201, u202, u203, u204, u205, u206, u207, u208, u209, u210, u211, u212, u213, u214, u215, u216, u217, u218, u219, u220, u221, u222, u223, u224, u225, u226, u227, u228, u229, u230, u231, u232, u233, u234, u235, u236, u237, u238, u239, u240, u241, u242, u243, u244, u245, u246, u247, u248, u249, u250, u251, u252, u253, u254, u255, u256, u257, u258, u259, u260, u261, u262, u263, u264, u265, u266, u267, u268, u269, u270, u271, u272, u273, u274, u275, u276, u277, u278, u279, u280, u281, u282, u283, u284, u285, u286, u287, u288, u289, u290, u291, u292, u293, u294, u295, u296, u297, u298, u299, u300, u301, u302, u303, u304, u305, u306, u307, u308, u309, u310, u311, u312, u313, u314, u315, u316, u317, u318, u319, u320], []⟩ w := by
  have he := Lib.hid hs.entries
  have ha := Lib.hid hs.all
  have hd := Lib.hid hs.depth
  have hx32 := hs.len
  have HS := Lib.hid hs
  have Hk := Lib.hid hk
  have c9 := blk_cell k9
  have z9 := lt_of_block k9
  have z14 := lt_of_block k14
  have Ho := Lib.hid ho
  have Hoo := Lib.hid hoo
  have hat : Hid (∀ W : World, Calls Tryz.prog 14 #[pgv kk D X (str L), .int .i64 bt] W fun e w' => e = .returned (.tuple #[.int .i64 Z, .bool inb]) ∧ Below W.heap.size W w') := Lib.hid fun W => by
    have := hs.at_ bt W
    rw [hZ, hin] at this
    exact this
  have HZ := Lib.hid hZ
  have Hin := Lib.hid hin
  clear hs hk ho hoo hZ hin
  subst hg
  simp only [Bool.false_eq_true, if_false] at hd
  conv => arg 2; whnf
  go_wp2_with fail
  with_reducible refine (he.out _).mono ?_
  rintro e w1 ⟨v, rfl, hrow, ⟨A1, n1, c1, rfl⟩, hb1⟩
  have Hrow := Lib.hid hrow
  have k9a := blk_keep k9 hb1
  have k14a := blk_keep k14 hb1
  have c9a := blk_cell k9a
  have z9a := lt_of_block k9a
  clear hrow c9
  go_wp2_with fail
  with_reducible refine (ha.out _).mono ?_
  rintro e w2 ⟨va, rfl, ra, hb2⟩
  have k9b := blk_keep k9a hb2
  have k14b := blk_keep k14a hb2
  have hk2 : Book B kb j w2 (ext (ext o w.heap.size 1000) w1.heap.size (2 * j + 3)) V U Xs vI vW := (((Hk.out.retag (o' := ext o w.heap.size 1000) (fun k h => ext_lt h)).below hb1).retag (o' := ext (ext o w.heap.size 1000) w1.heap.size (2 * j + 3)) (fun k h => ext_lt h)).below hb2
  have hs1 : w.heap.size ≤ w1.heap.size := hb1.size
  have hs2 : w1.heap.size ≤ w2.heap.size := hb2.size
  have ta : Tag (ext (ext o w.heap.size 1000) w1.heap.size (2 * j + 3)) va (2 * j + 3) := tag_new _ _ _ (row_ge ra)
  have ra2 := row_mono ra (B := B) (by omega)
  have hbB : Below B w w2 := below_base (below_base (Below.refl B w) hB hb1) (by omega) hb2
  have Hk2 := Lib.hid hk2
  have Hta := Lib.hid ta
  have Hra := Lib.hid ra2
  clear hk2 ta ra2 ra c9a k9a k14a
  go_wp2_with fail
  with_reducible refine (Bk.add_any Hk2.out va xs Hra.out Hta.out (by omega) (by omega)).mono ?_
  rintro e w3 ⟨rfl, o3, u3, vI3, vW3, hk3, ho3, hf3, hb3⟩
  have k9c := (hf3 pb (by omega) (by rw [ext_lt (by omega), ext_lt z9, Ho.out]; omega)).trans k9b
  have k14c := (hf3 ob (by omega) (by rw [ext_lt (by omega), ext_lt z14, Hoo.out]; omega)).trans k14b
  have op3 : Hid (o3 pb = 1000) := Lib.hid (by rw [ho3 pb (by omega), ext_lt (by omega), ext_lt z9, Ho.out])
  have kp : Hid (∀ (m : Nat) (v : Value) (ys : List Value), w1.ownsRow w.heap.size 3 1 v m ys → w3.ownsRow w.heap.size 3 1 v m ys) := Lib.hid fun m v ys h =>
    row_same (own_below h hb2) fun g hg => hf3 g (row_lt (own_below h hb2) g hg) (by
      have h1 := row_lt h g hg
      have h2 := row_ge h g hg
      rw [ext_lt h1, ext_ge h2]; omega)
  have rA : w3.ownsRow B 3 1 va xs.length (ints xs) := by
    have := hk3.rv j (by omega)
    rw [upd_same, upd_same] at this
    exact this
  have hbC := hbB.trans hb3
  have Hk3 := Lib.hid hk3
  have c9c := blk_cell k9c
  have z9c := lt_of_block k9c
  have c14c := blk_cell k14c
  have z14c := lt_of_block k14c
  clear hk3 ho3 hf3 hb3 hbB k9b k14b Hk2 Hta Hra Hk
  go_wp2_with fail
  with_reducible refine (hat.out _).mono ?_
  rintro e w4 ⟨rfl, hb4⟩
  have k9d := blk_keep k9c hb4
  have k14d := blk_keep k14c hb4
  have Hk4 := Lib.hid (Hk3.out.below hb4)
  have rA4 := own_below rA hb4
  have hbD := below_base hbC (by have := hbC.size; omega) hb4
  have c9d := blk_cell k9d
  have z9d := lt_of_block k9d
  have c14d := blk_cell k14d
  have z14d := lt_of_block k14d
  obtain ⟨Aa, ca, rfl⟩ := own_slice rA4
  have iA : Ints w4 Aa xs.length xs := by
    obtain ⟨A', c', he', h⟩ := ints_of_own rA4
    injection he' with he' _ _
    rw [he']
    exact h
  clear c9c z9c c14c z14c k9c k14c Hk3 rA hbC rA4
  obtain ⟨_, hxs⟩ := HS.out.no rfl
  subst hxs
  have hZ0 : Z = 0 := by rw [← HZ.out, atN, if_neg (by simp)]
  have hi0 : inb = false := by rw [← Hin.out]; simp
  subst hZ0
  subst hi0
  simp only [List.length_nil] at iA
  have iB : Ints w4 none 0 [] := ⟨rfl, by omega, fun h => absurd h (by omega)⟩
  by_cases h0 : 0 ≤ bt
  · have d1 : decide (0 ≤ bt) = true := by simpa using h0
    have d2 : decide (bt < 0) = false := by simp; omega
    have d3 : ¬ bt < 0 := by omega
    clear h0
    go_wp2_with fail
    with_reducible refine (sameInts_any _ _ _ _ _ _ _ _ _ iA iB).mono ?_
    rintro e w5 ⟨rfl, hb5⟩
    rw [decide_eq_true rfl]
    have k9e := blk_keep k9d hb5
    have k14e := blk_keep k14d hb5
    have c9e := blk_cell k9e
    have z9e := lt_of_block k9e
    have c14e := blk_cell k14e
    have z14e := lt_of_block k14e
    have Hk5 := Lib.hid (Hk4.out.below hb5)
    have hbE := below_base hbD (by have := hbD.size; omega) hb5
    clear c9d z9d c14d z14d iA iB hb5 hbD
    go_wp2_with fail
    with_reducible refine (hd.out _).mono ?_
    rintro e w6 ⟨rfl, hb6⟩
    go_wp2_with fail
    with_reducible refine hR.out _ _ _ _ _ _ _ _ _ _ _ _ _ _ _ _ _ _ _ _ _ _ _ _ _ _ _ _ _ _ _ _ _ _ _ _ _ _ _ _ _ _ _ _ _ _ _ _ _ _ _ _ _ _ _ _ _ _ _ _ _ _ _ _ _ _ _ _ _ _ _ _ _ _ _  _ _ _ _ _ _ (Hk5.out.below hb6) op3.out (blk_keep k9e hb6) (below_base hbE (by have := hbE.size; omega) hb6)
  · have d1 : decide (0 ≤ bt) = false := by simpa using h0
    have d2 : decide (bt < 0) = true := by simp; omega
    go_wp2_with fail
    with_reducible refine (sameInts_any _ _ _ _ _ _ _ _ _ iA iB).mono ?_
    rintro e w5 ⟨rfl, hb5⟩
    rw [decide_eq_true rfl]
    have k9e := blk_keep k9d hb5
    have k14e := blk_keep k14d hb5
    have c9e := blk_cell k9e
    have z9e := lt_of_block k9e
    have c14e := blk_cell k14e
    have z14e := lt_of_block k14e
    have Hk5 := Lib.hid (Hk4.out.below hb5)
    have hbE := below_base hbD (by have := hbD.size; omega) hb5
    clear c9d z9d c14d z14d iA iB hb5 hbD
    go_wp2_with fail
    with_reducible refine (hd.out _).mono ?_
    rintro e w6 ⟨rfl, hb6⟩
    go_wp2_with fail
    with_reducible refine hR.out _ _ _ _ _ _ _ _ _ _ _ _ _ _ _ _ _ _ _ _ _ _ _ _ _ _ _ _ _ _ _ _ _ _ _ _ _ _ _ _ _ _ _ _ _ _ _ _ _ _ _ _ _ _ _ _ _ _ _ _ _ _ _ _ _ _ _ _ _ _ _ _ _ _ _  _ _ _ _ _ _ (Hk5.out.below hb6) op3.out (blk_keep k9e hb6) (below_base hbE (by have := hbE.size; omega) hb6)
end Go.Proofs.YtlinolgbpnokcaaGreatDoor.Dr
