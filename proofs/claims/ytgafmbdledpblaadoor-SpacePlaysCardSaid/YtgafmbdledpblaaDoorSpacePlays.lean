/- The law SpacePlays: its walk. (Printed by tools/gen_sp.py.) -/
import Derived.Test.YtgafmbdledpblaaDoorSpacePlaysD
import Derived.Deep.Cut
import Derived.Deep.CutRange
import Derived.Deep.CutBlock
import Derived.Deep.DeepCutAuto
import Derived.RegionTactic
namespace Go.Proofs.YtgafmbdledpblaaDoor.Sp
open Go.RowKit Go.Proofs.YtgafmbdledpblaaDoor.Mem Go.Proofs.YtgafmbdledpblaaDoor.Pg
set_option linter.unusedSimpArgs false
set_option linter.unusedVariables false
noncomputable def cR10 : Code := sub (Tryd.f3.body.getD .skip) [.r, .r, .r, .r, .r, .r, .l, .r, .t]
set_option maxRecDepth 1000000 in
set_option maxHeartbeats 8000000 in
theorem r10_any (w : World) (rb pb : Nat) (k d x : Int) (S : ByteArray) (K0 : Int) (S0 : ByteArray) (kr : w.heap[rb]? = some (pgo k d x S)) (kp : w.heap[pb]? = some (pgo K0 0 0 S0))
    (u0 u1 u2 u3 u4 u6 u7 u8 u10 u11 u12 u13 u14 u15 u16 u17 u18 u19 u20 u21 u22 u23 u24 u25 u26 u27 u28 u29 u30 u31 u32 u33 u34 u35 u36 u37 u38 u39 u40 u41 u42 u43 u44 u45 u46 u47 u48 u49 u50 u51 u52 u53 u54 u55 u56 u57 u58 u59 u60 u61 u62 u63 u64 u65 u66 u67 u68 u69 u70 u71 u72 u73 u74 u75 u76 u77 u78 u79 u80 u81 u82 u83 u84 u85 u86 u87 u88 u89 u90 u91 u92 u93 u94 u95 u96 u97 u98 u99 u100 u101 u102 u103 u104 u105 u106 u107 u108 u109 u110 u111 u112 u113 u114 u115 u116 u117 u118 u119 u120 u121 u122 u123 u124 u125 u126 u127 u128 u129 u130 u131 u132 u133 u134 u135 u136 u137 u138 u139 u140 u141 u142 u143 u144 u145 u146 u147 u148 u149 u150 u151 u152 u153 u154 u155 u156 u157 u158 u159 u160 u161 u162 u163 u164 u165 u166 u167 u168 u169 u170 u171 u172 u173 u174 u175 u176 u177 u178 u179 u180 u181 u182 u183 u184 u185 u186 u187 u188 u189 u190 u191 u192 u193 u194 u195 u196 u197 u198 u199 u200 u201 u202 u203 u204 u205 u206 u207 u208 u209 u210 u211 u212 u213 u214 u215 u216 u217 u218 u219 u220 u221 u222 u223 u224 u225 u226 u227 u228 u229 u230 u231 u232 u233 u234 u235 u236 u237 u238 u239 u240 u241 u242 u243 u244 u245 u246 u247 u248 u249 u250 u251 : Value) (R : Exit → Act → World → Prop) (hR : Hid (∀ v80, R .normal ⟨#[u0, u1, u2, u3, u4, .pointer (some ⟨rb, 0, none⟩), u6, u7, u8, .pointer (some ⟨pb, 0, none⟩), u10, u11, u12, u13, u14, u15, u16, u17, u18, u19, u20, u21, u22, u23, u24, u25, u26, u27, u28, u29, u30, u31, u32, u33, u34, u35, u36, u37, u38, u39, u40, u41, u42, u43, u44, u45, u46, u47, u48, u49, u50, u51, u52, u53, u54, u55, u56, u57, u58, u59, u60, u61, u62, u63, u64, u65, u66, u67, u68, u69, u70, u71, u72, u73, u74, u75, u76, u77, u78, u79, v80, u81, u82, u83, u84, u85, u86, u87, u88, u89, u90, u91, u92, u93, u94, u95, u96, u97, u98, u99, u100, u101, u102, u103, u104, u105, u106, u107, u108, u109, u110, u111, u112, u113, u114, u115, u116, u117, u118, u119, u120, u121, u122, u123, u124, u125, u126, u127, u128, u129, u130, u131, u132, u133, u134, u135, u136, u137, u138, u139, u140, u141, u142, u143, u144, u145, u146, u147, u148, u149, u150, u151, u152, u153, u154, u155, u156, u157, u158, u159, u160, u161, u162, u163, u164, u165, u166, u167, u168, u169, u170, u171, u172, u173, u174, u175, u176, u177, u178, u179, u180, u181, u182, u183, u184, u185, u186, u187, u188, u189, u190, u191, u192, u193, u194, u195, u196, u197, u198, u199, u200, u201, u202, u203, u204, u205, u206, u207, u208, u209, u210, u211, u212, u213, u214, u215, u216, u217, u218, u219, u220, u221, u222, u223, u224, u225, u226, u227, u228, u229, u230, u231, u232, u233, u234, u235, u236, u237, u238, u239, u240, u241, u242, u243, u244, u245, u246, u247, u248, u249, u250, u251], []⟩ (set4 w pb (.int .i64 k) (.int .i64 d) (.int .i64 x) (.string S)))) :
    Code.wp Tryd.prog cR10 R ⟨#[u0, u1, u2, u3, u4, .pointer (some ⟨rb, 0, none⟩), u6, u7, u8, .pointer (some ⟨pb, 0, none⟩), u10, u11, u12, u13, u14, u15, u16, u17, u18, u19, u20, u21, u22, u23, u24, u25, u26, u27, u28, u29, u30, u31, u32, u33, u34, u35, u36, u37, u38, u39, u40, u41, u42, u43, u44, u45, u46, u47, u48, u49, u50, u51, u52, u53, u54, u55, u56, u57, u58, u59, u60, u61, u62, u63, u64, u65, u66, u67, u68, u69, u70, u71, u72, u73, u74, u75, u76, u77, u78, u79, u80, u81, u82, u83, u84, u85, u86, u87, u88, u89, u90, u91, u92, u93, u94, u95, u96, u97, u98, u99, u100, u101, u102, u103, u104, u105, u106, u107, u108, u109, u110, u111, u112, u113, u114, u115, u116, u117, u118, u119, u120, u121, u122, u123, u124, u125, u126, u127, u128, u129, u130, u131, u132, u133, u134, u135, u136, u137, u138, u139, u140, u141, u142, u143, u144, u145, u146, u147, u148, u149, u150, u151, u152, u153, u154, u155, u156, u157, u158, u159, u160, u161, u162, u163, u164, u165, u166, u167, u168, u169, u170, u171, u172, u173, u174, u175, u176, u177, u178, u179, u180, u181, u182, u183, u184, u185, u186, u187, u188, u189, u190, u191, u192, u193, u194, u195, u196, u197, u198, u199, u200, u201, u202, u203, u204, u205, u206, u207, u208, u209, u210, u211, u212, u213, u214, u215, u216, u217, u218, u219, u220, u221, u222, u223, u224, u225, u226, u227, u228, u229, u230, u231, u232, u233, u234, u235, u236, u237, u238, u239, u240, u241, u242, u243, u244, u245, u246, u247, u248, u249, u250, u251], []⟩ w := by
  have c5 := blk_cell kr
  have z5 := lt_of_block kr
  have c9 := blk_cell kp
  have c9f := blk_free kp
  have z9 := lt_of_block kp
  conv => arg 2; whnf
  go_wp2_with fail
  with_reducible refine hR.out _
set_option maxRecDepth 1000000 in
set_option maxHeartbeats 8000000 in
theorem plays_far (n k d x : Int) (bd : List UInt8) (ot : Bool) (A : Option Addr) (len cap : Nat) (w : World) (h : 300 < bd.length ∨ 100 < len) :
    Calls Tryd.prog 3 #[.int .i64 n, .agg #[.int .i64 k, .int .i64 d, .int .i64 x, .string (str bd)], .bool ot, .slice A len cap] w fun e w' => e = .returned (.bool true) ∧ Below w.heap.size w w' := by
  have hbz : (str bd).size = bd.length := str_size bd
  have hal' := fun w => alive_any w
  by_cases h1 : 300 < bd.length
  · have d1 : decide (300 < bd.length) = true := by simpa using h1
    have d1' : decide ((300 : Int) < (bd.length : Int)) = true := by simp; omega
    clear h
    go_enter Tryd.func3, Tryd.ntmps3
    go_wp2_with fail
    with_reducible refine (hal' _).mono ?_
    rintro e w1 ⟨rfl, hb1⟩
    have b1 := below_box hb1
    go_wp2_with fail
    go_ret
    exact ⟨rfl, b1⟩
  · have h2 : 100 < len := by omega
    have d1 : decide (300 < bd.length) = false := by simpa using h1
    have d1' : decide ((300 : Int) < (bd.length : Int)) = false := by simp; omega
    have d2 : decide (100 < len) = true := by simpa using h2
    have d2' : decide ((100 : Int) < (len : Int)) = true := by simp; omega
    clear h h1
    go_enter Tryd.func3, Tryd.ntmps3
    go_wp2_with fail
    with_reducible refine (hal' _).mono ?_
    rintro e w1 ⟨rfl, hb1⟩
    have b1 := below_box hb1
    go_wp2_with fail
    go_ret
    exact ⟨rfl, b1⟩
set_option maxRecDepth 1000000 in
set_option maxHeartbeats 8000000 in
theorem plays_lo (n k d x : Int) (bd : List UInt8) (ot : Bool) (A : Option Addr) (len cap : Nat) (Ko No : Nat → Int) (w : World) (hl : len ≤ 100) (hbd : bd.length ≤ 300) (hops : Ops w A len Ko No) (h8 : n < 8) :
    Calls Tryd.prog 3 #[.int .i64 n, .agg #[.int .i64 k, .int .i64 d, .int .i64 x, .string (str bd)], .bool ot, .slice A len cap] w fun e w' => e = .returned (.bool true) ∧ Below w.heap.size w w' := by
  have hal' := fun w => alive_any w
  have hbz : (str bd).size = bd.length := str_size bd
  have e300 : decide (300 < bd.length) = false := by simp; omega
  have e300' : decide ((300 : Int) < (bd.length : Int)) = false := by simp; omega
  have e100 : decide (100 < len) = false := by simp; omega
  have e100' : decide ((100 : Int) < (len : Int)) = false := by simp; omega
  have Hops := Lib.hid hops
  clear hops
  obtain ⟨S, hS⟩ : ∃ S, S = str bd := ⟨_, rfl⟩
  rw [← hS] at hbz ⊢
  have HS := Lib.hid hS
  clear hS
  have hnew := fun w => new_no n w (.inl h8)
  have h8' : ¬ 8 ≤ n := by omega
  have e8 : decide (8 ≤ n) = false := by simpa using h8'
  clear h8
  go_enter Tryd.func3, Tryd.ntmps3
  go_wp2_with fail
  with_reducible refine (hal' _).mono ?_
  rintro e w1 ⟨rfl, hb1⟩
  have q1 := blk_below hb1
  have b1 := below_box hb1
  have z1 := lt_of_block q1
  clear hb1 hal'
  go_wp2_with fail
  with_reducible refine (hnew _).mono ?_
  rintro e w2 ⟨rfl, hb2⟩
  have q2 := blk_keep q1 hb2
  have b2 := below_base b1 b1.size hb2
  have z2 := lt_of_block q2
  clear q1 b1 z1 hb2 hnew
  have k3 := heap_alloc_new w2 (.cells #[.int .i64 0, .int .i64 0, .int .i64 0, .string ⟨#[]⟩] 23)
  have q3 : (w2.alloc (.cells #[.int .i64 0, .int .i64 0, .int .i64 0, .string ⟨#[]⟩] 23)).heap[w.heap.size]? = _ := hal q2
  have b3 := below_al b2 (.cells #[.int .i64 0, .int .i64 0, .int .i64 0, .string ⟨#[]⟩] 23)
  have hp : w.heap.size < w2.heap.size := z2
  have c3 := blk_cell k3
  have z3 := lt_of_block k3
  have kz := k3
  have qz := q3
  have bz := b3
  cases ot
  · have x0 := True.intro
    have Hk := Lib.hid (And.intro kz (And.intro qz bz))
    clear kz qz bz q2 b2 z2 q3 b3
    go_upto_if 79 with fail
    refine wp_cond_true rfl (r10_any _ w.heap.size w2.heap.size k d x S _ _ Hk.out.2.1 Hk.out.1 _ _ _ _ _ _ _ _ _ _ _ _ _ _ _ _ _ _ _ _ _ _ _ _ _ _ _ _ _ _ _ _ _ _ _ _ _ _ _ _ _ _ _ _ _ _ _ _ _ _ _ _ _ _ _ _ _ _ _ _ _ _ _ _ _ _ _ _ _ _ _ _ _ _ _ _ _ _ _ _ _ _ _ _ _ _ _ _ _ _ _ _ _ _ _ _ _ _ _ _ _ _ _ _ _ _ _ _ _ _ _ _ _ _ _ _ _ _ _ _ _ _ _ _ _ _ _ _ _ _ _ _ _ _ _ _ _ _ _ _ _ _ _ _ _ _ _ _ _ _ _ _ _ _ _ _ _ _ _ _ _ _ _ _ _ _ _ _ _ _ _ _ _ _ _ _ _ _ _ _ _ _ _ _ _ _ _ _ _ _ _ _ _ _ _ _ _ _ _ _ _ _ _ _ _ _ _ _ _ _ _ _ _ _ _ _ _ _ _ _ _ _ _ _ _ _ _ _ _ _ _ _ _ _ _ _ _ _ _ _ _ _ _ _ _ _ _ _ _ _ _ (Lib.hid ?_))
    intro v80
    dsimp only [Exit.then]
    apply_assumption
    exact loop_any _ w w2.heap.size A len cap Ko No hl Hops.out (by omega) ⟨k, d, x, bd, hbd, by rw [← HS.out]; exact set4_same Hk.out.1 _ _ _ _⟩ (below_set4 Hk.out.2.2 (by omega) _ _ _ _) _ _ _ _ _ _ _ _ _ _ _ _ _ _ _ _ _ _ _ _ _ _ _ _ _ _ _ _ _ _ _ _ _ _ _ _ _ _ _ _ _ _ _ _ _ _ _ _ _ _ _ _ _ _ _ _ _ _ _ _ _ _ _ _ _ _ _ _ _ _ _ _ _ _ _ _ _ _ _ _ _ _ _ _ _ _ _ _ _ _ _ _ _ _ _ _ _ _ _ _ _ _ _ _ _ _ _ _ _ _ _ _ _ _ _ _ _ _ _ _ _ _ _ _ _ _ _ _ _ _ _ _ _ _ _ _ _ _ _ _ _ _ _ _ _ _ _ _ _ _ _ _ _ _ _ _ _ _ _ _ _ _ _ _ _ _ _ _ _ _ _ _ _ _ _ _ _ _ _ _ _ _ _ _ _ _ _ _ _ _ _ _ _ _ _ _ _ _ _ _ _ _ _ _ _ _ _ _ _ _ _ _ _ _ _ _ _ _ _ _ _ _ _ _ _ _ _ _ _ _ _ _ _ _ _ _ _ _ _ _ _ _ _ _ _ _ _ _ _ _
  · have x0 := True.intro
    have Hk := Lib.hid (And.intro kz (And.intro qz bz))
    clear kz qz bz q2 b2 z2 q3 b3
    go_upto_if 79 with fail
    refine wp_cond_true rfl (r10_any _ w.heap.size w2.heap.size k d x S _ _ Hk.out.2.1 Hk.out.1 _ _ _ _ _ _ _ _ _ _ _ _ _ _ _ _ _ _ _ _ _ _ _ _ _ _ _ _ _ _ _ _ _ _ _ _ _ _ _ _ _ _ _ _ _ _ _ _ _ _ _ _ _ _ _ _ _ _ _ _ _ _ _ _ _ _ _ _ _ _ _ _ _ _ _ _ _ _ _ _ _ _ _ _ _ _ _ _ _ _ _ _ _ _ _ _ _ _ _ _ _ _ _ _ _ _ _ _ _ _ _ _ _ _ _ _ _ _ _ _ _ _ _ _ _ _ _ _ _ _ _ _ _ _ _ _ _ _ _ _ _ _ _ _ _ _ _ _ _ _ _ _ _ _ _ _ _ _ _ _ _ _ _ _ _ _ _ _ _ _ _ _ _ _ _ _ _ _ _ _ _ _ _ _ _ _ _ _ _ _ _ _ _ _ _ _ _ _ _ _ _ _ _ _ _ _ _ _ _ _ _ _ _ _ _ _ _ _ _ _ _ _ _ _ _ _ _ _ _ _ _ _ _ _ _ _ _ _ _ _ _ _ _ _ _ _ _ _ _ _ _ (Lib.hid ?_))
    intro v80
    dsimp only [Exit.then]
    apply_assumption
    exact loop_any _ w w2.heap.size A len cap Ko No hl Hops.out (by omega) ⟨k, d, x, bd, hbd, by rw [← HS.out]; exact set4_same Hk.out.1 _ _ _ _⟩ (below_set4 Hk.out.2.2 (by omega) _ _ _ _) _ _ _ _ _ _ _ _ _ _ _ _ _ _ _ _ _ _ _ _ _ _ _ _ _ _ _ _ _ _ _ _ _ _ _ _ _ _ _ _ _ _ _ _ _ _ _ _ _ _ _ _ _ _ _ _ _ _ _ _ _ _ _ _ _ _ _ _ _ _ _ _ _ _ _ _ _ _ _ _ _ _ _ _ _ _ _ _ _ _ _ _ _ _ _ _ _ _ _ _ _ _ _ _ _ _ _ _ _ _ _ _ _ _ _ _ _ _ _ _ _ _ _ _ _ _ _ _ _ _ _ _ _ _ _ _ _ _ _ _ _ _ _ _ _ _ _ _ _ _ _ _ _ _ _ _ _ _ _ _ _ _ _ _ _ _ _ _ _ _ _ _ _ _ _ _ _ _ _ _ _ _ _ _ _ _ _ _ _ _ _ _ _ _ _ _ _ _ _ _ _ _ _ _ _ _ _ _ _ _ _ _ _ _ _ _ _ _ _ _ _ _ _ _ _ _ _ _ _ _ _ _ _ _ _ _ _ _ _ _ _ _ _ _ _ _ _ _ _ _
set_option maxRecDepth 1000000 in
set_option maxHeartbeats 8000000 in
theorem plays_hi (n k d x : Int) (bd : List UInt8) (ot : Bool) (A : Option Addr) (len cap : Nat) (Ko No : Nat → Int) (w : World) (hl : len ≤ 100) (hbd : bd.length ≤ 300) (hops : Ops w A len Ko No) (h64 : 64 < n) :
    Calls Tryd.prog 3 #[.int .i64 n, .agg #[.int .i64 k, .int .i64 d, .int .i64 x, .string (str bd)], .bool ot, .slice A len cap] w fun e w' => e = .returned (.bool true) ∧ Below w.heap.size w w' := by
  have hal' := fun w => alive_any w
  have hbz : (str bd).size = bd.length := str_size bd
  have e300 : decide (300 < bd.length) = false := by simp; omega
  have e300' : decide ((300 : Int) < (bd.length : Int)) = false := by simp; omega
  have e100 : decide (100 < len) = false := by simp; omega
  have e100' : decide ((100 : Int) < (len : Int)) = false := by simp; omega
  have Hops := Lib.hid hops
  clear hops
  obtain ⟨S, hS⟩ : ∃ S, S = str bd := ⟨_, rfl⟩
  rw [← hS] at hbz ⊢
  have HS := Lib.hid hS
  clear hS
  have hnew := fun w => new_no n w (.inr h64)
  have h8' : 8 ≤ n := by omega
  have h64' : ¬ n ≤ 64 := by omega
  have e8 : decide (8 ≤ n) = true := by simpa using h8'
  have e64 : decide (n ≤ 64) = false := by simpa using h64'
  clear h64
  go_enter Tryd.func3, Tryd.ntmps3
  go_wp2_with fail
  with_reducible refine (hal' _).mono ?_
  rintro e w1 ⟨rfl, hb1⟩
  have q1 := blk_below hb1
  have b1 := below_box hb1
  have z1 := lt_of_block q1
  clear hb1 hal'
  go_wp2_with fail
  with_reducible refine (hnew _).mono ?_
  rintro e w2 ⟨rfl, hb2⟩
  have q2 := blk_keep q1 hb2
  have b2 := below_base b1 b1.size hb2
  have z2 := lt_of_block q2
  clear q1 b1 z1 hb2 hnew
  have k3 := heap_alloc_new w2 (.cells #[.int .i64 0, .int .i64 0, .int .i64 0, .string ⟨#[]⟩] 23)
  have q3 : (w2.alloc (.cells #[.int .i64 0, .int .i64 0, .int .i64 0, .string ⟨#[]⟩] 23)).heap[w.heap.size]? = _ := hal q2
  have b3 := below_al b2 (.cells #[.int .i64 0, .int .i64 0, .int .i64 0, .string ⟨#[]⟩] 23)
  have hp : w.heap.size < w2.heap.size := z2
  have c3 := blk_cell k3
  have z3 := lt_of_block k3
  have kz := k3
  have qz := q3
  have bz := b3
  cases ot
  · have x0 := True.intro
    have Hk := Lib.hid (And.intro kz (And.intro qz bz))
    clear kz qz bz q2 b2 z2 q3 b3
    go_upto_if 79 with fail
    refine wp_cond_true rfl (r10_any _ w.heap.size w2.heap.size k d x S _ _ Hk.out.2.1 Hk.out.1 _ _ _ _ _ _ _ _ _ _ _ _ _ _ _ _ _ _ _ _ _ _ _ _ _ _ _ _ _ _ _ _ _ _ _ _ _ _ _ _ _ _ _ _ _ _ _ _ _ _ _ _ _ _ _ _ _ _ _ _ _ _ _ _ _ _ _ _ _ _ _ _ _ _ _ _ _ _ _ _ _ _ _ _ _ _ _ _ _ _ _ _ _ _ _ _ _ _ _ _ _ _ _ _ _ _ _ _ _ _ _ _ _ _ _ _ _ _ _ _ _ _ _ _ _ _ _ _ _ _ _ _ _ _ _ _ _ _ _ _ _ _ _ _ _ _ _ _ _ _ _ _ _ _ _ _ _ _ _ _ _ _ _ _ _ _ _ _ _ _ _ _ _ _ _ _ _ _ _ _ _ _ _ _ _ _ _ _ _ _ _ _ _ _ _ _ _ _ _ _ _ _ _ _ _ _ _ _ _ _ _ _ _ _ _ _ _ _ _ _ _ _ _ _ _ _ _ _ _ _ _ _ _ _ _ _ _ _ _ _ _ _ _ _ _ _ _ _ _ _ _ (Lib.hid ?_))
    intro v80
    dsimp only [Exit.then]
    apply_assumption
    exact loop_any _ w w2.heap.size A len cap Ko No hl Hops.out (by omega) ⟨k, d, x, bd, hbd, by rw [← HS.out]; exact set4_same Hk.out.1 _ _ _ _⟩ (below_set4 Hk.out.2.2 (by omega) _ _ _ _) _ _ _ _ _ _ _ _ _ _ _ _ _ _ _ _ _ _ _ _ _ _ _ _ _ _ _ _ _ _ _ _ _ _ _ _ _ _ _ _ _ _ _ _ _ _ _ _ _ _ _ _ _ _ _ _ _ _ _ _ _ _ _ _ _ _ _ _ _ _ _ _ _ _ _ _ _ _ _ _ _ _ _ _ _ _ _ _ _ _ _ _ _ _ _ _ _ _ _ _ _ _ _ _ _ _ _ _ _ _ _ _ _ _ _ _ _ _ _ _ _ _ _ _ _ _ _ _ _ _ _ _ _ _ _ _ _ _ _ _ _ _ _ _ _ _ _ _ _ _ _ _ _ _ _ _ _ _ _ _ _ _ _ _ _ _ _ _ _ _ _ _ _ _ _ _ _ _ _ _ _ _ _ _ _ _ _ _ _ _ _ _ _ _ _ _ _ _ _ _ _ _ _ _ _ _ _ _ _ _ _ _ _ _ _ _ _ _ _ _ _ _ _ _ _ _ _ _ _ _ _ _ _ _ _ _ _ _ _ _ _ _ _ _ _ _ _ _ _ _
  · have x0 := True.intro
    have Hk := Lib.hid (And.intro kz (And.intro qz bz))
    clear kz qz bz q2 b2 z2 q3 b3
    go_upto_if 79 with fail
    refine wp_cond_true rfl (r10_any _ w.heap.size w2.heap.size k d x S _ _ Hk.out.2.1 Hk.out.1 _ _ _ _ _ _ _ _ _ _ _ _ _ _ _ _ _ _ _ _ _ _ _ _ _ _ _ _ _ _ _ _ _ _ _ _ _ _ _ _ _ _ _ _ _ _ _ _ _ _ _ _ _ _ _ _ _ _ _ _ _ _ _ _ _ _ _ _ _ _ _ _ _ _ _ _ _ _ _ _ _ _ _ _ _ _ _ _ _ _ _ _ _ _ _ _ _ _ _ _ _ _ _ _ _ _ _ _ _ _ _ _ _ _ _ _ _ _ _ _ _ _ _ _ _ _ _ _ _ _ _ _ _ _ _ _ _ _ _ _ _ _ _ _ _ _ _ _ _ _ _ _ _ _ _ _ _ _ _ _ _ _ _ _ _ _ _ _ _ _ _ _ _ _ _ _ _ _ _ _ _ _ _ _ _ _ _ _ _ _ _ _ _ _ _ _ _ _ _ _ _ _ _ _ _ _ _ _ _ _ _ _ _ _ _ _ _ _ _ _ _ _ _ _ _ _ _ _ _ _ _ _ _ _ _ _ _ _ _ _ _ _ _ _ _ _ _ _ _ _ _ (Lib.hid ?_))
    intro v80
    dsimp only [Exit.then]
    apply_assumption
    exact loop_any _ w w2.heap.size A len cap Ko No hl Hops.out (by omega) ⟨k, d, x, bd, hbd, by rw [← HS.out]; exact set4_same Hk.out.1 _ _ _ _⟩ (below_set4 Hk.out.2.2 (by omega) _ _ _ _) _ _ _ _ _ _ _ _ _ _ _ _ _ _ _ _ _ _ _ _ _ _ _ _ _ _ _ _ _ _ _ _ _ _ _ _ _ _ _ _ _ _ _ _ _ _ _ _ _ _ _ _ _ _ _ _ _ _ _ _ _ _ _ _ _ _ _ _ _ _ _ _ _ _ _ _ _ _ _ _ _ _ _ _ _ _ _ _ _ _ _ _ _ _ _ _ _ _ _ _ _ _ _ _ _ _ _ _ _ _ _ _ _ _ _ _ _ _ _ _ _ _ _ _ _ _ _ _ _ _ _ _ _ _ _ _ _ _ _ _ _ _ _ _ _ _ _ _ _ _ _ _ _ _ _ _ _ _ _ _ _ _ _ _ _ _ _ _ _ _ _ _ _ _ _ _ _ _ _ _ _ _ _ _ _ _ _ _ _ _ _ _ _ _ _ _ _ _ _ _ _ _ _ _ _ _ _ _ _ _ _ _ _ _ _ _ _ _ _ _ _ _ _ _ _ _ _ _ _ _ _ _ _ _ _ _ _ _ _ _ _ _ _ _ _ _ _ _ _ _
set_option maxRecDepth 1000000 in
set_option maxHeartbeats 8000000 in
theorem plays_yes (n k d x : Int) (bd : List UInt8) (ot : Bool) (A : Option Addr) (len cap : Nat) (Ko No : Nat → Int) (w : World) (hl : len ≤ 100) (hbd : bd.length ≤ 300) (hops : Ops w A len Ko No) (h8 : 8 ≤ n) (h64 : n ≤ 64) :
    Calls Tryd.prog 3 #[.int .i64 n, .agg #[.int .i64 k, .int .i64 d, .int .i64 x, .string (str bd)], .bool ot, .slice A len cap] w fun e w' => e = .returned (.bool true) ∧ Below w.heap.size w w' := by
  have hal' := fun w => alive_any w
  have hbz : (str bd).size = bd.length := str_size bd
  have e300 : decide (300 < bd.length) = false := by simp; omega
  have e300' : decide ((300 : Int) < (bd.length : Int)) = false := by simp; omega
  have e100 : decide (100 < len) = false := by simp; omega
  have e100' : decide ((100 : Int) < (len : Int)) = false := by simp; omega
  have Hops := Lib.hid hops
  clear hops
  obtain ⟨S, hS⟩ : ∃ S, S = str bd := ⟨_, rfl⟩
  rw [← hS] at hbz ⊢
  have HS := Lib.hid hS
  clear hS
  obtain ⟨m, rfl⟩ : ∃ m : Nat, n = m := ⟨n.toNat, by omega⟩
  have hm8 : 8 ≤ m := by omega
  have hm64 : m ≤ 64 := by omega
  have hnew := fun w => new_ok m w hm8 hm64
  have hrm := fun w => refMap_any 2 0 0 (newL m) w (by rw [newL_len]; omega)
  rw [pagesF_map (isMap_new m hm8 hm64)] at hrm
  obtain ⟨S0, hS0⟩ : ∃ S0, S0 = str (newL m) := ⟨_, rfl⟩
  rw [← hS0] at hnew hrm
  have HS0 := Lib.hid hS0
  have e8 : decide ((8 : Int) ≤ (m : Int)) = true := by simp; omega
  have e8' : decide (8 ≤ m) = true := by simpa using hm8
  have e64 : decide ((m : Int) ≤ 64) = true := by simp; omega
  have e64' : decide (m ≤ 64) = true := by simpa using hm64
  clear hS0 h8 h64
  go_enter Tryd.func3, Tryd.ntmps3
  go_wp2_with fail
  with_reducible refine (hal' _).mono ?_
  rintro e w1 ⟨rfl, hb1⟩
  have q1 := blk_below hb1
  have b1 := below_box hb1
  have z1 := lt_of_block q1
  clear hb1 hal'
  go_wp2_with fail
  with_reducible refine (hnew _).mono ?_
  rintro e w2 ⟨rfl, hb2⟩
  have q2 := blk_keep q1 hb2
  have b2 := below_base b1 b1.size hb2
  have z2 := lt_of_block q2
  clear q1 b1 z1 hb2 hnew
  have k3 := heap_alloc_new w2 (.cells #[.int .i64 2, .int .i64 0, .int .i64 0, .string S0] 23)
  have q3 : (w2.alloc (.cells #[.int .i64 2, .int .i64 0, .int .i64 0, .string S0] 23)).heap[w.heap.size]? = _ := hal q2
  have b3 := below_al b2 (.cells #[.int .i64 2, .int .i64 0, .int .i64 0, .string S0] 23)
  have hp : w.heap.size < w2.heap.size := z2
  have c3 := blk_cell k3
  have z3 := lt_of_block k3
  go_wp2_with fail
  with_reducible refine (hrm _).mono ?_
  rintro e w4 ⟨rfl, hb4⟩
  have kz := blk_keep k3 hb4
  have qz := blk_keep q3 hb4
  have bz := below_base b3 b3.size hb4
  clear hb4
  cases ot
  · have x0 := True.intro
    have Hk := Lib.hid (And.intro kz (And.intro qz bz))
    clear kz qz bz q2 b2 z2 k3 q3 b3 c3 z3
    go_upto_if 79 with fail
    refine wp_cond_false rfl (wp_skip ?_)
    dsimp only [Exit.then]
    apply_assumption
    exact loop_any _ w w2.heap.size A len cap Ko No hl Hops.out (by omega) ⟨2, 0, 0, newL m, by rw [newL_len]; omega, by have := Hk.out.1; rw [HS0.out] at this; exact this⟩ Hk.out.2.2 _ _ _ _ _ _ _ _ _ _ _ _ _ _ _ _ _ _ _ _ _ _ _ _ _ _ _ _ _ _ _ _ _ _ _ _ _ _ _ _ _ _ _ _ _ _ _ _ _ _ _ _ _ _ _ _ _ _ _ _ _ _ _ _ _ _ _ _ _ _ _ _ _ _ _ _ _ _ _ _ _ _ _ _ _ _ _ _ _ _ _ _ _ _ _ _ _ _ _ _ _ _ _ _ _ _ _ _ _ _ _ _ _ _ _ _ _ _ _ _ _ _ _ _ _ _ _ _ _ _ _ _ _ _ _ _ _ _ _ _ _ _ _ _ _ _ _ _ _ _ _ _ _ _ _ _ _ _ _ _ _ _ _ _ _ _ _ _ _ _ _ _ _ _ _ _ _ _ _ _ _ _ _ _ _ _ _ _ _ _ _ _ _ _ _ _ _ _ _ _ _ _ _ _ _ _ _ _ _ _ _ _ _ _ _ _ _ _ _ _ _ _ _ _ _ _ _ _ _ _ _ _ _ _ _ _ _ _ _ _ _ _ _ _ _ _ _ _ _ _
  · have x0 := True.intro
    have Hk := Lib.hid (And.intro kz (And.intro qz bz))
    clear kz qz bz q2 b2 z2 k3 q3 b3 c3 z3
    go_upto_if 79 with fail
    refine wp_cond_true rfl (r10_any _ w.heap.size w2.heap.size k d x S _ _ Hk.out.2.1 Hk.out.1 _ _ _ _ _ _ _ _ _ _ _ _ _ _ _ _ _ _ _ _ _ _ _ _ _ _ _ _ _ _ _ _ _ _ _ _ _ _ _ _ _ _ _ _ _ _ _ _ _ _ _ _ _ _ _ _ _ _ _ _ _ _ _ _ _ _ _ _ _ _ _ _ _ _ _ _ _ _ _ _ _ _ _ _ _ _ _ _ _ _ _ _ _ _ _ _ _ _ _ _ _ _ _ _ _ _ _ _ _ _ _ _ _ _ _ _ _ _ _ _ _ _ _ _ _ _ _ _ _ _ _ _ _ _ _ _ _ _ _ _ _ _ _ _ _ _ _ _ _ _ _ _ _ _ _ _ _ _ _ _ _ _ _ _ _ _ _ _ _ _ _ _ _ _ _ _ _ _ _ _ _ _ _ _ _ _ _ _ _ _ _ _ _ _ _ _ _ _ _ _ _ _ _ _ _ _ _ _ _ _ _ _ _ _ _ _ _ _ _ _ _ _ _ _ _ _ _ _ _ _ _ _ _ _ _ _ _ _ _ _ _ _ _ _ _ _ _ _ _ _ _ (Lib.hid ?_))
    intro v80
    dsimp only [Exit.then]
    apply_assumption
    exact loop_any _ w w2.heap.size A len cap Ko No hl Hops.out (by omega) ⟨k, d, x, bd, hbd, by rw [← HS.out]; exact set4_same Hk.out.1 _ _ _ _⟩ (below_set4 Hk.out.2.2 (by omega) _ _ _ _) _ _ _ _ _ _ _ _ _ _ _ _ _ _ _ _ _ _ _ _ _ _ _ _ _ _ _ _ _ _ _ _ _ _ _ _ _ _ _ _ _ _ _ _ _ _ _ _ _ _ _ _ _ _ _ _ _ _ _ _ _ _ _ _ _ _ _ _ _ _ _ _ _ _ _ _ _ _ _ _ _ _ _ _ _ _ _ _ _ _ _ _ _ _ _ _ _ _ _ _ _ _ _ _ _ _ _ _ _ _ _ _ _ _ _ _ _ _ _ _ _ _ _ _ _ _ _ _ _ _ _ _ _ _ _ _ _ _ _ _ _ _ _ _ _ _ _ _ _ _ _ _ _ _ _ _ _ _ _ _ _ _ _ _ _ _ _ _ _ _ _ _ _ _ _ _ _ _ _ _ _ _ _ _ _ _ _ _ _ _ _ _ _ _ _ _ _ _ _ _ _ _ _ _ _ _ _ _ _ _ _ _ _ _ _ _ _ _ _ _ _ _ _ _ _ _ _ _ _ _ _ _ _ _ _ _ _ _ _ _ _ _ _ _ _ _ _ _ _ _
theorem plays_any (n k d x : Int) (s : ByteArray) (ot : Bool) (A : Option Addr) (len cap : Nat) (Ko No : Nat → Int) (w : World) (hops : Ops w A len Ko No) :
    Calls Tryd.prog 3 #[.int .i64 n, .agg #[.int .i64 k, .int .i64 d, .int .i64 x, .string s], .bool ot, .slice A len cap] w fun e w' => e = .returned (.bool true) ∧ Below w.heap.size w w' := by
  rw [str_of s]
  by_cases h : 300 < s.data.toList.length ∨ 100 < len
  · exact plays_far n k d x _ ot A len cap w h
  · by_cases h8 : n < 8
    · exact plays_lo n k d x _ ot A len cap Ko No w (by omega) (by omega) hops h8
    · by_cases h64 : 64 < n
      · exact plays_hi n k d x _ ot A len cap Ko No w (by omega) (by omega) hops h64
      · exact plays_yes n k d x _ ot A len cap Ko No w (by omega) (by omega) hops (by omega) (by omega)
end Go.Proofs.YtgafmbdledpblaaDoor.Sp
