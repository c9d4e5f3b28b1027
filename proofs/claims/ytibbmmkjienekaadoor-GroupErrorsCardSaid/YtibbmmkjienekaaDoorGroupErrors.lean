/- The walk of GroupErrors. (Printed by tools/gen_ge.py.) -/
import Derived.Test.YtibbmmkjienekaaDoorGrAlive
import Derived.Test.YtibbmmkjienekaaDoorPagRight
namespace Go.Proofs.YtibbmmkjienekaaDoor.Gr
open Go.RowKit Go.Proofs.YtibbmmkjienekaaDoor.Mem Go.Proofs.YtibbmmkjienekaaDoor.Pg Go.Proofs.YtibbmmkjienekaaDoor.Kp Go.Proofs.YtibbmmkjienekaaDoor.Sp
set_option linter.unusedSimpArgs false
set_option linter.unusedVariables false
def nopage : List UInt8 := [110, 111, 32, 112, 97, 103, 101]
/-- The bytes of the law's pages. -/
def Be (i : Nat) : List UInt8 := if i = 5 then nopage else B0 10 i
theorem Sto.setDead {w : World} {sb qb n c : Nat} {dead : Int} {B : Nat → List UInt8} (h : Sto w sb qb n c dead B) (d : Int) : Sto (w.setCell ⟨sb, 1, none⟩ (.int .i64 d)) sb qb n c d B := by
  obtain ⟨cs, h1, h2⟩ := h.pgs
  exact ⟨heap_setCell_same w sb 1 _ _ (.int .i64 d) h.sto, ⟨cs, (heap_setCell_other _ _ _ _ h.ne.symm).trans h1, h2⟩, h.le, h.ne, h.sm⟩
theorem Sto.setPage {w : World} {sb qb n c : Nat} {dead : Int} {B : Nat → List UInt8} (h : Sto w sb qb n c dead B) (j : Nat) (b : List UInt8) (hb : b.length ≤ 1000) : Sto (w.setCell ⟨qb, j, none⟩ (.string (str b))) sb qb n c dead (fun i => if i = j then b else B i) := by
  obtain ⟨cs, h1, h2⟩ := h.pgs
  refine ⟨(heap_setCell_other _ _ _ _ h.ne).trans h.sto, ⟨_, heap_setCell_same w qb j _ _ (.string (str b)) h1, fun i hi => ?_⟩, h.le, h.ne, fun i hi => ?_⟩
  · by_cases e : i = j
    · subst e
      have := (Array.getElem?_eq_some_iff.1 (h2 i hi)).1
      rw [Array.getElem?_setIfInBounds, if_pos rfl, if_pos this, if_pos rfl]
    · rw [Array.getElem?_setIfInBounds, if_neg (fun h => e h.symm), if_neg e]
      exact h2 i hi
  · show (if i = j then b else B i).length ≤ 1000
    split
    · exact hb
    · exact h.sm i hi
theorem Sto.cell {w : World} {sb qb n c : Nat} {dead : Int} {B : Nat → List UInt8} (h : Sto w sb qb n c dead B) (j : Nat) (hj : j < n) : w.cell? ⟨qb, j, none⟩ = some (.string (str (B j))) ∧ w.frozen? ⟨qb, j, none⟩ = false := by
  obtain ⟨cs, h1, h2⟩ := h.pgs
  exact ⟨(blk_cell h1 j).trans (h2 j hj), blk_free h1 j⟩
noncomputable def cErr9 : Code := sub (Tryd.f3.body.getD .skip) [.r, .r, .r, .r, .r, .r, .r]
/-- What a page below is told as. -/
def Wants (n e : Int) : Prop := (n = 4 ∧ e = 10) ∨ (n ≠ 4 ∧ (n < 0 ∨ 9 < n) ∧ e = 12) ∨ (n = 5 ∧ e = 2) ∨ (n ≠ 4 ∧ n ≠ 5 ∧ 0 ≤ n ∧ n ≤ 9 ∧ e = 0)
theorem get_case (n : Int) (hn : (Lit.int .i64 n).wf = true) : ∃ (k d x e : Int) (s : ByteArray), Wants n e ∧ ∀ (W : World) (gb mb sb qb c : Nat) (tk : Int), Tab W → Sto W sb qb 10 c 4 Be → Grp W gb mb sb none0 tk →
    Calls Tryd.prog 11 #[.pointer (some ⟨gb, 0, none⟩), .int .i64 n] W fun e' w' => e' = .returned (.tuple #[.agg #[.int .i64 k, .int .i64 d, .int .i64 x, .string s], .int .i64 e]) ∧ Below W.heap.size W w' := by
  by_cases h4 : n = 4
  · exact ⟨0, 0, 0, 10, ⟨#[]⟩, .inl ⟨h4, rfl⟩, fun W gb mb sb qb c tk ht hs hg => gget_err W gb mb sb qb 10 c 4 Be none0 tk n hn hs hg [] 10 (if_pos h4) (by omega)⟩
  · by_cases hr : n < 0 ∨ 9 < n
    · exact ⟨0, 0, 0, 12, ⟨#[]⟩, .inr (.inl ⟨h4, hr, rfl⟩), fun W gb mb sb qb c tk ht hs hg => gget_err W gb mb sb qb 10 c 4 Be none0 tk n hn hs hg [] 12 (by show rd 10 4 Be n = _; rw [rd, if_neg h4, if_neg (by omega)]) (by omega)⟩
    · obtain ⟨m, rfl⟩ := Int.eq_ofNat_of_zero_le (show 0 ≤ n by omega)
      have hrd : rd 10 4 Be m = (Be m, 0) := by rw [rd, if_neg h4, if_pos ⟨by omega, by omega⟩, Int.toNat_natCast]
      by_cases h5 : m = 5
      · subst h5
        exact ⟨0, 0, 0, 2, ⟨#[]⟩, .inr (.inr (.inl ⟨rfl, rfl⟩)), fun W gb mb sb qb c tk ht hs hg => gget_form W gb mb sb qb 10 c 4 Be none0 tk _ hn hs hg _ rfl hrd (by simp [Be, nopage])⟩
      · have hshow : ∃ p, Shows (Be m) p := by
          rw [Be, if_neg h5, B0]
          split
          · exact ⟨_, .inl ⟨newPage_ok 10, rfl⟩⟩
          · exact ⟨Pag.zero, .inr ⟨rfl, rfl⟩⟩
        obtain ⟨p, hp⟩ := hshow
        exact ⟨p.k, p.d, p.x, 0, str p.l, .inr (.inr (.inr ⟨h4, by omega, by omega, by omega, rfl⟩)), fun W gb mb sb qb c tk ht hs hg => gget_any W gb mb sb qb 10 c 4 Be none0 tk m hn ht hs hg _ p hrd hp⟩

set_option maxRecDepth 1000000 in
set_option maxHeartbeats 8000000 in
theorem err_yes_four (w w0 : World) (gb mb sb qb c pb : Nat) (n k0 d0 x0 e0 k d x : Int) (s0 : ByteArray) (l : List UInt8) (hn : (Lit.int .i64 n).wf = true) (hT : Tab w) (hS : Sto w sb qb 10 c 4 Be) (hG : Grp w gb mb sb none0 0) (hK : w.heap[pb]? = some (.cells #[.int .i64 k, .int .i64 d, .int .i64 x, .string (str l)] 23 (0, 0))) (hb : Below w0.heap.size w0 w) (hlt : w0.heap.size ≤ pb ∧ pb < mb ∧ sb < mb ∧ qb < mb ∧ gtab < mb) (hget : ∀ (W : World) (gb mb sb qb c : Nat) (tk : Int), Tab W → Sto W sb qb 10 c 4 Be → Grp W gb mb sb none0 tk → Calls Tryd.prog 11 #[.pointer (some ⟨gb, 0, none⟩), .int .i64 n] W fun e' w' => e' = .returned (.tuple #[.agg #[.int .i64 k0, .int .i64 d0, .int .i64 x0, .string s0], .int .i64 e0]) ∧ Below W.heap.size W w') (hok : Pag.ok ⟨k, d, x, l⟩) (h0 : 0 ≤ n) (h1 : n < 64) (hw : n = 4) (he : e0 = 10)
    (u1 u2 u4 u7 u8 u9 u10 u11 u12 u13 u14 u15 u16 u17 u18 u19 u20 u21 u22 u23 u24 u25 u26 u27 u28 u29 u30 u31 u32 u33 u34 u35 u36 u37 u38 u39 u40 u41 u42 u43 u44 u45 u46 u47 u48 u49 u50 u51 u52 u53 u54 u55 u56 u57 u58 u59 u60 u61 u62 u63 u64 u65 u66 u67 u68 u69 u70 u71 u72 u73 u74 u75 u76 u77 u78 u79 u80 u81 u82 u83 u84 u85 u86 u87 u88 u89 u90 u91 u92 u93 u94 u95 u96 u97 u98 u99 u100 u101 u102 u103 : Value) :
    Code.wp Tryd.prog cErr9 (bodyPost Tryd.prog Tryd.f3 (fun e w' => e = .returned (.bool true) ∧ Below w0.heap.size w0 w')) ⟨#[.int .i64 n, u1, u2, .pointer (some ⟨pb, 0, none⟩), u4, .pointer (some ⟨sb, 0, none⟩), .pointer (some ⟨gb, 0, none⟩), u7, u8, u9, u10, u11, u12, u13, u14, u15, u16, u17, u18, u19, u20, u21, u22, u23, u24, u25, u26, u27, u28, u29, u30, u31, u32, u33, u34, u35, u36, u37, u38, u39, u40, u41, u42, u43, u44, u45, u46, u47, u48, u49, u50, u51, u52, u53, u54, u55, u56, u57, u58, u59, u60, u61, u62, u63, u64, u65, u66, u67, u68, u69, u70, u71, u72, u73, u74, u75, u76, u77, u78, u79, u80, u81, u82, u83, u84, u85, u86, u87, u88, u89, u90, u91, u92, u93, u94, u95, u96, u97, u98, u99, u100, u101, u102, u103], []⟩ w := by
  have hright := fun W => right_page ⟨k, d, x, l⟩ W
  simp only [Pag.v] at hright
  have hput := fun W gb mb sb M tk (t : Tab W) (g : Grp W gb mb sb M tk) => gput_ok W gb mb sb M tk n ⟨k, d, x, l⟩ t g hok h0 h1
  have hget2 := fun W gb mb sb qb c tk (t : Tab W) (s : Sto W sb qb 10 c 4 Be) (g : Grp W gb mb sb (upd none0 n (Pag.bytes ⟨k, d, x, l⟩)) tk) => gget_any W gb mb sb qb 10 c 4 Be (upd none0 n (Pag.bytes ⟨k, d, x, l⟩)) tk n hn t s g (Pag.bytes ⟨k, d, x, l⟩) ⟨k, d, x, l⟩ (by unfold Gr.seen; rw [upd_same]) (.inl ⟨hok, rfl⟩)
  rw [decide_eq_true hok] at hright
  obtain ⟨M1, hM1⟩ : ∃ M1, M1 = upd none0 n (Pag.bytes ⟨k, d, x, l⟩) := ⟨_, rfl⟩
  rw [← hM1] at hget2
  have hput := fun W gb mb sb tk (t : Tab W) (g : Grp W gb mb sb none0 tk) => hput W gb mb sb none0 tk t g
  rw [← hM1] at hput
  simp only [Pag.v] at hput hget2
  have f1 : decide (0 ≤ n) = true := by simpa using h0
  have f2 : decide (n < 64) = true := by simpa using h1
  clear hM1 hok
  obtain ⟨S, hS'⟩ : ∃ S, S = str l := ⟨_, rfl⟩
  rw [← hS'] at hright hK hput hget2
  have T0 := Lib.hid hT
  have S0 := Lib.hid hS
  have G0 := Lib.hid hG
  have B0' := Lib.hid hb
  have Hlt := Lib.hid hlt
  have HK := Lib.hid hK
  clear hT hS hG hb hlt hK hS' hn
  clear h0 h1
  subst hw
  subst he
  conv => arg 2; whnf
  go_wp2_with fail
  with_reducible refine (hget w gb mb sb qb c 0 T0.out S0.out G0.out).mono ?_
  rintro e w5 ⟨rfl, hb5⟩
  have k7 := heap_alloc_new w5 (.cells #[.int .i64 k0, .int .i64 d0, .int .i64 x0, .string s0] 23)
  have b6 := below_al hb5 (.cells #[.int .i64 k0, .int .i64 d0, .int .i64 x0, .string s0] 23)
  have T6 := Lib.hid (T0.out.below b6)
  have S6 := Lib.hid (S0.out.below b6)
  have G6 := Lib.hid (G0.out.below b6)
  have K6 := Lib.hid (blk_keep HK.out b6)
  have B6 := Lib.hid (below_base B0'.out B0'.out.size b6)
  have c6 := blk_cell K6.out
  have z6 := lt_of_block K6.out
  clear hb5 b6 k7
  go_wp2_with fail
  with_reducible refine (hput _ gb mb sb 0 T6.out G6.out).mono ?_
  rintro e w7 ⟨rfl, g7, k7⟩
  have T7 := Lib.hid (T6.out.keep k7 (by have := Hlt.out; omega))
  have S7 := Lib.hid (S6.out.keep k7 (by have := Hlt.out; omega) (by have := Hlt.out; omega))
  have G7 := Lib.hid g7
  have K7 := Lib.hid (k7.blk K6.out (by have := Hlt.out; omega))
  have B7 := Lib.hid (below_keep B6.out B6.out.size k7 (fun i hi => by rw [hi]; have := Hlt.out; omega))
  clear c6 z6 g7 k7
  have c6 := blk_cell K7.out
  have z6 := lt_of_block K7.out
  go_wp2_with fail
  with_reducible refine (hright _).mono ?_
  rintro e w8 ⟨rfl, hb8⟩
  have T8 := Lib.hid (T7.out.below hb8)
  have S8 := Lib.hid (S7.out.below hb8)
  have G8 := Lib.hid (G7.out.below hb8)
  have K8 := Lib.hid (blk_keep K7.out hb8)
  have B8 := Lib.hid (below_base B7.out B7.out.size hb8)
  clear c6 z6 hb8
  go_wp2_with fail
  with_reducible refine (hget2 _ gb mb sb qb c 0 T8.out S8.out G8.out).mono ?_
  rintro e w9 ⟨rfl, hb9⟩
  have q12 := heap_alloc_new w9 (.cells #[.int .i64 k, .int .i64 d, .int .i64 x, .string S] 23)
  have b9 := below_al hb9 (.cells #[.int .i64 k, .int .i64 d, .int .i64 x, .string S] 23)
  have K9 := blk_keep K8.out b9
  have c12 := blk_cell q12
  have c9 := blk_cell K9
  have z9 := lt_of_block K9
  have B9 := Lib.hid (below_base B8.out B8.out.size b9)
  clear q12 b9 K9 hb9
  go_wp2_with fail
  go_ret
  exact ⟨rfl, B9.out⟩
set_option maxRecDepth 1000000 in
set_option maxHeartbeats 8000000 in
theorem err_no_four (w w0 : World) (gb mb sb qb c pb : Nat) (n k0 d0 x0 e0 k d x : Int) (s0 : ByteArray) (l : List UInt8) (hn : (Lit.int .i64 n).wf = true) (hT : Tab w) (hS : Sto w sb qb 10 c 4 Be) (hG : Grp w gb mb sb none0 0) (hK : w.heap[pb]? = some (.cells #[.int .i64 k, .int .i64 d, .int .i64 x, .string (str l)] 23 (0, 0))) (hb : Below w0.heap.size w0 w) (hlt : w0.heap.size ≤ pb ∧ pb < mb ∧ sb < mb ∧ qb < mb ∧ gtab < mb) (hget : ∀ (W : World) (gb mb sb qb c : Nat) (tk : Int), Tab W → Sto W sb qb 10 c 4 Be → Grp W gb mb sb none0 tk → Calls Tryd.prog 11 #[.pointer (some ⟨gb, 0, none⟩), .int .i64 n] W fun e' w' => e' = .returned (.tuple #[.agg #[.int .i64 k0, .int .i64 d0, .int .i64 x0, .string s0], .int .i64 e0]) ∧ Below W.heap.size W w') (hno : ¬ (Pag.ok ⟨k, d, x, l⟩ ∧ 0 ≤ n ∧ n < 64)) (hw : n = 4) (he : e0 = 10)
    (u1 u2 u4 u7 u8 u9 u10 u11 u12 u13 u14 u15 u16 u17 u18 u19 u20 u21 u22 u23 u24 u25 u26 u27 u28 u29 u30 u31 u32 u33 u34 u35 u36 u37 u38 u39 u40 u41 u42 u43 u44 u45 u46 u47 u48 u49 u50 u51 u52 u53 u54 u55 u56 u57 u58 u59 u60 u61 u62 u63 u64 u65 u66 u67 u68 u69 u70 u71 u72 u73 u74 u75 u76 u77 u78 u79 u80 u81 u82 u83 u84 u85 u86 u87 u88 u89 u90 u91 u92 u93 u94 u95 u96 u97 u98 u99 u100 u101 u102 u103 : Value) :
    Code.wp Tryd.prog cErr9 (bodyPost Tryd.prog Tryd.f3 (fun e w' => e = .returned (.bool true) ∧ Below w0.heap.size w0 w')) ⟨#[.int .i64 n, u1, u2, .pointer (some ⟨pb, 0, none⟩), u4, .pointer (some ⟨sb, 0, none⟩), .pointer (some ⟨gb, 0, none⟩), u7, u8, u9, u10, u11, u12, u13, u14, u15, u16, u17, u18, u19, u20, u21, u22, u23, u24, u25, u26, u27, u28, u29, u30, u31, u32, u33, u34, u35, u36, u37, u38, u39, u40, u41, u42, u43, u44, u45, u46, u47, u48, u49, u50, u51, u52, u53, u54, u55, u56, u57, u58, u59, u60, u61, u62, u63, u64, u65, u66, u67, u68, u69, u70, u71, u72, u73, u74, u75, u76, u77, u78, u79, u80, u81, u82, u83, u84, u85, u86, u87, u88, u89, u90, u91, u92, u93, u94, u95, u96, u97, u98, u99, u100, u101, u102, u103], []⟩ w := by
  have hright := fun W => right_page ⟨k, d, x, l⟩ W
  simp only [Pag.v] at hright
  have hput := fun W gb (t : Tab W) => gput_no W gb n ⟨k, d, x, l⟩ t hno
  simp only [Pag.v] at hput
  rw [decide_eq_false (fun h => hno ⟨h, by omega, by omega⟩)] at hright
  obtain ⟨S, hS'⟩ : ∃ S, S = str l := ⟨_, rfl⟩
  rw [← hS'] at hright hK hput
  have T0 := Lib.hid hT
  have S0 := Lib.hid hS
  have G0 := Lib.hid hG
  have B0' := Lib.hid hb
  have Hlt := Lib.hid hlt
  have HK := Lib.hid hK
  clear hT hS hG hb hlt hK hS' hn
  clear hno
  subst hw
  subst he
  conv => arg 2; whnf
  go_wp2_with fail
  with_reducible refine (hget w gb mb sb qb c 0 T0.out S0.out G0.out).mono ?_
  rintro e w5 ⟨rfl, hb5⟩
  have k7 := heap_alloc_new w5 (.cells #[.int .i64 k0, .int .i64 d0, .int .i64 x0, .string s0] 23)
  have b6 := below_al hb5 (.cells #[.int .i64 k0, .int .i64 d0, .int .i64 x0, .string s0] 23)
  have T6 := Lib.hid (T0.out.below b6)
  have S6 := Lib.hid (S0.out.below b6)
  have G6 := Lib.hid (G0.out.below b6)
  have K6 := Lib.hid (blk_keep HK.out b6)
  have B6 := Lib.hid (below_base B0'.out B0'.out.size b6)
  have c6 := blk_cell K6.out
  have z6 := lt_of_block K6.out
  clear hb5 b6 k7
  go_wp2_with fail
  with_reducible refine (hput _ gb T6.out).mono ?_
  rintro e w7 ⟨rfl, hb7⟩
  have T7 := Lib.hid (T6.out.below hb7)
  have S7 := Lib.hid (S6.out.below hb7)
  have G7 := Lib.hid (G6.out.below hb7)
  have K7 := Lib.hid (blk_keep K6.out hb7)
  have B7 := Lib.hid (below_base B6.out B6.out.size hb7)
  clear c6 z6 hb7
  have c6 := blk_cell K7.out
  have z6 := lt_of_block K7.out
  go_wp2_with fail
  with_reducible refine (hright _).mono ?_
  rintro e w8 ⟨rfl, hb8⟩
  have T8 := Lib.hid (T7.out.below hb8)
  have S8 := Lib.hid (S7.out.below hb8)
  have G8 := Lib.hid (G7.out.below hb8)
  have B8 := Lib.hid (below_base B7.out B7.out.size hb8)
  clear hb8
  go_wp2_with fail
  with_reducible refine (hget _ gb mb sb qb c 0 T8.out S8.out G8.out).mono ?_
  rintro e w9 ⟨rfl, hb9⟩
  have b9 := below_al hb9 (.cells #[.int .i64 k0, .int .i64 d0, .int .i64 x0, .string s0] 23)
  have B9 := Lib.hid (below_base B8.out B8.out.size b9)
  clear b9 hb9
  go_wp2_with fail
  go_ret
  exact ⟨rfl, B9.out⟩
set_option maxRecDepth 1000000 in
set_option maxHeartbeats 8000000 in
theorem err_no_lo (w w0 : World) (gb mb sb qb c pb : Nat) (n k0 d0 x0 e0 k d x : Int) (s0 : ByteArray) (l : List UInt8) (hn : (Lit.int .i64 n).wf = true) (hT : Tab w) (hS : Sto w sb qb 10 c 4 Be) (hG : Grp w gb mb sb none0 0) (hK : w.heap[pb]? = some (.cells #[.int .i64 k, .int .i64 d, .int .i64 x, .string (str l)] 23 (0, 0))) (hb : Below w0.heap.size w0 w) (hlt : w0.heap.size ≤ pb ∧ pb < mb ∧ sb < mb ∧ qb < mb ∧ gtab < mb) (hget : ∀ (W : World) (gb mb sb qb c : Nat) (tk : Int), Tab W → Sto W sb qb 10 c 4 Be → Grp W gb mb sb none0 tk → Calls Tryd.prog 11 #[.pointer (some ⟨gb, 0, none⟩), .int .i64 n] W fun e' w' => e' = .returned (.tuple #[.agg #[.int .i64 k0, .int .i64 d0, .int .i64 x0, .string s0], .int .i64 e0]) ∧ Below W.heap.size W w') (hno : ¬ (Pag.ok ⟨k, d, x, l⟩ ∧ 0 ≤ n ∧ n < 64)) (hw : n < 0) (he : e0 = 12)
    (u1 u2 u4 u7 u8 u9 u10 u11 u12 u13 u14 u15 u16 u17 u18 u19 u20 u21 u22 u23 u24 u25 u26 u27 u28 u29 u30 u31 u32 u33 u34 u35 u36 u37 u38 u39 u40 u41 u42 u43 u44 u45 u46 u47 u48 u49 u50 u51 u52 u53 u54 u55 u56 u57 u58 u59 u60 u61 u62 u63 u64 u65 u66 u67 u68 u69 u70 u71 u72 u73 u74 u75 u76 u77 u78 u79 u80 u81 u82 u83 u84 u85 u86 u87 u88 u89 u90 u91 u92 u93 u94 u95 u96 u97 u98 u99 u100 u101 u102 u103 : Value) :
    Code.wp Tryd.prog cErr9 (bodyPost Tryd.prog Tryd.f3 (fun e w' => e = .returned (.bool true) ∧ Below w0.heap.size w0 w')) ⟨#[.int .i64 n, u1, u2, .pointer (some ⟨pb, 0, none⟩), u4, .pointer (some ⟨sb, 0, none⟩), .pointer (some ⟨gb, 0, none⟩), u7, u8, u9, u10, u11, u12, u13, u14, u15, u16, u17, u18, u19, u20, u21, u22, u23, u24, u25, u26, u27, u28, u29, u30, u31, u32, u33, u34, u35, u36, u37, u38, u39, u40, u41, u42, u43, u44, u45, u46, u47, u48, u49, u50, u51, u52, u53, u54, u55, u56, u57, u58, u59, u60, u61, u62, u63, u64, u65, u66, u67, u68, u69, u70, u71, u72, u73, u74, u75, u76, u77, u78, u79, u80, u81, u82, u83, u84, u85, u86, u87, u88, u89, u90, u91, u92, u93, u94, u95, u96, u97, u98, u99, u100, u101, u102, u103], []⟩ w := by
  have hright := fun W => right_page ⟨k, d, x, l⟩ W
  simp only [Pag.v] at hright
  have hput := fun W gb (t : Tab W) => gput_no W gb n ⟨k, d, x, l⟩ t hno
  simp only [Pag.v] at hput
  obtain ⟨S, hS'⟩ : ∃ S, S = str l := ⟨_, rfl⟩
  rw [← hS'] at hright hK hput
  have T0 := Lib.hid hT
  have S0 := Lib.hid hS
  have G0 := Lib.hid hG
  have B0' := Lib.hid hb
  have Hlt := Lib.hid hlt
  have HK := Lib.hid hK
  clear hT hS hG hb hlt hK hS' hn
  clear hno
  subst he
  have q1 : (n == 4) = false := by simp; omega
  have q1' : decide (n = 4) = false := by simp; omega
  have q2 : decide (n < 0) = true := by simpa using hw
  have q3 : decide (0 ≤ n) = false := by simp; omega
  clear hw
  conv => arg 2; whnf
  go_wp2_with fail
  with_reducible refine (hget w gb mb sb qb c 0 T0.out S0.out G0.out).mono ?_
  rintro e w5 ⟨rfl, hb5⟩
  have k7 := heap_alloc_new w5 (.cells #[.int .i64 k0, .int .i64 d0, .int .i64 x0, .string s0] 23)
  have b6 := below_al hb5 (.cells #[.int .i64 k0, .int .i64 d0, .int .i64 x0, .string s0] 23)
  have T6 := Lib.hid (T0.out.below b6)
  have S6 := Lib.hid (S0.out.below b6)
  have G6 := Lib.hid (G0.out.below b6)
  have K6 := Lib.hid (blk_keep HK.out b6)
  have B6 := Lib.hid (below_base B0'.out B0'.out.size b6)
  have c6 := blk_cell K6.out
  have z6 := lt_of_block K6.out
  clear hb5 b6 k7
  go_wp2_with fail
  with_reducible refine (hput _ gb T6.out).mono ?_
  rintro e w7 ⟨rfl, hb7⟩
  have T7 := Lib.hid (T6.out.below hb7)
  have S7 := Lib.hid (S6.out.below hb7)
  have G7 := Lib.hid (G6.out.below hb7)
  have K7 := Lib.hid (blk_keep K6.out hb7)
  have B7 := Lib.hid (below_base B6.out B6.out.size hb7)
  clear c6 z6 hb7
  have c6 := blk_cell K7.out
  have z6 := lt_of_block K7.out
  go_wp2_with fail
  have T8 := T7
  have S8 := S7
  have G8 := G7
  have B8 := B7
  with_reducible refine (hget _ gb mb sb qb c 0 T8.out S8.out G8.out).mono ?_
  rintro e w9 ⟨rfl, hb9⟩
  have b9 := below_al hb9 (.cells #[.int .i64 k0, .int .i64 d0, .int .i64 x0, .string s0] 23)
  have B9 := Lib.hid (below_base B8.out B8.out.size b9)
  clear b9 hb9
  go_wp2_with fail
  go_ret
  exact ⟨rfl, B9.out⟩
set_option maxRecDepth 1000000 in
set_option maxHeartbeats 8000000 in
theorem err_yes_hi (w w0 : World) (gb mb sb qb c pb : Nat) (n k0 d0 x0 e0 k d x : Int) (s0 : ByteArray) (l : List UInt8) (hn : (Lit.int .i64 n).wf = true) (hT : Tab w) (hS : Sto w sb qb 10 c 4 Be) (hG : Grp w gb mb sb none0 0) (hK : w.heap[pb]? = some (.cells #[.int .i64 k, .int .i64 d, .int .i64 x, .string (str l)] 23 (0, 0))) (hb : Below w0.heap.size w0 w) (hlt : w0.heap.size ≤ pb ∧ pb < mb ∧ sb < mb ∧ qb < mb ∧ gtab < mb) (hget : ∀ (W : World) (gb mb sb qb c : Nat) (tk : Int), Tab W → Sto W sb qb 10 c 4 Be → Grp W gb mb sb none0 tk → Calls Tryd.prog 11 #[.pointer (some ⟨gb, 0, none⟩), .int .i64 n] W fun e' w' => e' = .returned (.tuple #[.agg #[.int .i64 k0, .int .i64 d0, .int .i64 x0, .string s0], .int .i64 e0]) ∧ Below W.heap.size W w') (hok : Pag.ok ⟨k, d, x, l⟩) (h0 : 0 ≤ n) (h1 : n < 64) (hw : 9 < n) (hw2 : n < 64) (he : e0 = 12)
    (u1 u2 u4 u7 u8 u9 u10 u11 u12 u13 u14 u15 u16 u17 u18 u19 u20 u21 u22 u23 u24 u25 u26 u27 u28 u29 u30 u31 u32 u33 u34 u35 u36 u37 u38 u39 u40 u41 u42 u43 u44 u45 u46 u47 u48 u49 u50 u51 u52 u53 u54 u55 u56 u57 u58 u59 u60 u61 u62 u63 u64 u65 u66 u67 u68 u69 u70 u71 u72 u73 u74 u75 u76 u77 u78 u79 u80 u81 u82 u83 u84 u85 u86 u87 u88 u89 u90 u91 u92 u93 u94 u95 u96 u97 u98 u99 u100 u101 u102 u103 : Value) :
    Code.wp Tryd.prog cErr9 (bodyPost Tryd.prog Tryd.f3 (fun e w' => e = .returned (.bool true) ∧ Below w0.heap.size w0 w')) ⟨#[.int .i64 n, u1, u2, .pointer (some ⟨pb, 0, none⟩), u4, .pointer (some ⟨sb, 0, none⟩), .pointer (some ⟨gb, 0, none⟩), u7, u8, u9, u10, u11, u12, u13, u14, u15, u16, u17, u18, u19, u20, u21, u22, u23, u24, u25, u26, u27, u28, u29, u30, u31, u32, u33, u34, u35, u36, u37, u38, u39, u40, u41, u42, u43, u44, u45, u46, u47, u48, u49, u50, u51, u52, u53, u54, u55, u56, u57, u58, u59, u60, u61, u62, u63, u64, u65, u66, u67, u68, u69, u70, u71, u72, u73, u74, u75, u76, u77, u78, u79, u80, u81, u82, u83, u84, u85, u86, u87, u88, u89, u90, u91, u92, u93, u94, u95, u96, u97, u98, u99, u100, u101, u102, u103], []⟩ w := by
  have hright := fun W => right_page ⟨k, d, x, l⟩ W
  simp only [Pag.v] at hright
  have hput := fun W gb mb sb M tk (t : Tab W) (g : Grp W gb mb sb M tk) => gput_ok W gb mb sb M tk n ⟨k, d, x, l⟩ t g hok h0 h1
  have hget2 := fun W gb mb sb qb c tk (t : Tab W) (s : Sto W sb qb 10 c 4 Be) (g : Grp W gb mb sb (upd none0 n (Pag.bytes ⟨k, d, x, l⟩)) tk) => gget_any W gb mb sb qb 10 c 4 Be (upd none0 n (Pag.bytes ⟨k, d, x, l⟩)) tk n hn t s g (Pag.bytes ⟨k, d, x, l⟩) ⟨k, d, x, l⟩ (by unfold Gr.seen; rw [upd_same]) (.inl ⟨hok, rfl⟩)
  rw [decide_eq_true hok] at hright
  obtain ⟨M1, hM1⟩ : ∃ M1, M1 = upd none0 n (Pag.bytes ⟨k, d, x, l⟩) := ⟨_, rfl⟩
  rw [← hM1] at hget2
  have hput := fun W gb mb sb tk (t : Tab W) (g : Grp W gb mb sb none0 tk) => hput W gb mb sb none0 tk t g
  rw [← hM1] at hput
  simp only [Pag.v] at hput hget2
  have f1 : decide (0 ≤ n) = true := by simpa using h0
  have f2 : decide (n < 64) = true := by simpa using h1
  clear hM1 hok
  obtain ⟨S, hS'⟩ : ∃ S, S = str l := ⟨_, rfl⟩
  rw [← hS'] at hright hK hput hget2
  have T0 := Lib.hid hT
  have S0 := Lib.hid hS
  have G0 := Lib.hid hG
  have B0' := Lib.hid hb
  have Hlt := Lib.hid hlt
  have HK := Lib.hid hK
  clear hT hS hG hb hlt hK hS' hn
  clear h0 h1
  subst he
  have q1 : (n == 4) = false := by simp; omega
  have q1' : decide (n = 4) = false := by simp; omega
  have q2 : decide (n < 0) = false := by simp; omega
  have q4 : decide (9 < n) = true := by simpa using hw
  have q3 : decide (0 ≤ n) = true := by simp; omega
  have q5 : decide (n < 64) = true := by simpa using hw2
  clear hw hw2
  conv => arg 2; whnf
  go_wp2_with fail
  with_reducible refine (hget w gb mb sb qb c 0 T0.out S0.out G0.out).mono ?_
  rintro e w5 ⟨rfl, hb5⟩
  have k7 := heap_alloc_new w5 (.cells #[.int .i64 k0, .int .i64 d0, .int .i64 x0, .string s0] 23)
  have b6 := below_al hb5 (.cells #[.int .i64 k0, .int .i64 d0, .int .i64 x0, .string s0] 23)
  have T6 := Lib.hid (T0.out.below b6)
  have S6 := Lib.hid (S0.out.below b6)
  have G6 := Lib.hid (G0.out.below b6)
  have K6 := Lib.hid (blk_keep HK.out b6)
  have B6 := Lib.hid (below_base B0'.out B0'.out.size b6)
  have c6 := blk_cell K6.out
  have z6 := lt_of_block K6.out
  clear hb5 b6 k7
  go_wp2_with fail
  with_reducible refine (hput _ gb mb sb 0 T6.out G6.out).mono ?_
  rintro e w7 ⟨rfl, g7, k7⟩
  have T7 := Lib.hid (T6.out.keep k7 (by have := Hlt.out; omega))
  have S7 := Lib.hid (S6.out.keep k7 (by have := Hlt.out; omega) (by have := Hlt.out; omega))
  have G7 := Lib.hid g7
  have K7 := Lib.hid (k7.blk K6.out (by have := Hlt.out; omega))
  have B7 := Lib.hid (below_keep B6.out B6.out.size k7 (fun i hi => by rw [hi]; have := Hlt.out; omega))
  clear c6 z6 g7 k7
  have c6 := blk_cell K7.out
  have z6 := lt_of_block K7.out
  go_wp2_with fail
  with_reducible refine (hright _).mono ?_
  rintro e w8 ⟨rfl, hb8⟩
  have T8 := Lib.hid (T7.out.below hb8)
  have S8 := Lib.hid (S7.out.below hb8)
  have G8 := Lib.hid (G7.out.below hb8)
  have K8 := Lib.hid (blk_keep K7.out hb8)
  have B8 := Lib.hid (below_base B7.out B7.out.size hb8)
  clear c6 z6 hb8
  go_wp2_with fail
  with_reducible refine (hget2 _ gb mb sb qb c 0 T8.out S8.out G8.out).mono ?_
  rintro e w9 ⟨rfl, hb9⟩
  have q12 := heap_alloc_new w9 (.cells #[.int .i64 k, .int .i64 d, .int .i64 x, .string S] 23)
  have b9 := below_al hb9 (.cells #[.int .i64 k, .int .i64 d, .int .i64 x, .string S] 23)
  have K9 := blk_keep K8.out b9
  have c12 := blk_cell q12
  have c9 := blk_cell K9
  have z9 := lt_of_block K9
  have B9 := Lib.hid (below_base B8.out B8.out.size b9)
  clear q12 b9 K9 hb9
  go_wp2_with fail
  go_ret
  exact ⟨rfl, B9.out⟩
set_option maxRecDepth 1000000 in
set_option maxHeartbeats 8000000 in
theorem err_no_hi (w w0 : World) (gb mb sb qb c pb : Nat) (n k0 d0 x0 e0 k d x : Int) (s0 : ByteArray) (l : List UInt8) (hn : (Lit.int .i64 n).wf = true) (hT : Tab w) (hS : Sto w sb qb 10 c 4 Be) (hG : Grp w gb mb sb none0 0) (hK : w.heap[pb]? = some (.cells #[.int .i64 k, .int .i64 d, .int .i64 x, .string (str l)] 23 (0, 0))) (hb : Below w0.heap.size w0 w) (hlt : w0.heap.size ≤ pb ∧ pb < mb ∧ sb < mb ∧ qb < mb ∧ gtab < mb) (hget : ∀ (W : World) (gb mb sb qb c : Nat) (tk : Int), Tab W → Sto W sb qb 10 c 4 Be → Grp W gb mb sb none0 tk → Calls Tryd.prog 11 #[.pointer (some ⟨gb, 0, none⟩), .int .i64 n] W fun e' w' => e' = .returned (.tuple #[.agg #[.int .i64 k0, .int .i64 d0, .int .i64 x0, .string s0], .int .i64 e0]) ∧ Below W.heap.size W w') (hno : ¬ (Pag.ok ⟨k, d, x, l⟩ ∧ 0 ≤ n ∧ n < 64)) (hw : 9 < n) (hw2 : n < 64) (he : e0 = 12)
    (u1 u2 u4 u7 u8 u9 u10 u11 u12 u13 u14 u15 u16 u17 u18 u19 u20 u21 u22 u23 u24 u25 u26 u27 u28 u29 u30 u31 u32 u33 u34 u35 u36 u37 u38 u39 u40 u41 u42 u43 u44 u45 u46 u47 u48 u49 u50 u51 u52 u53 u54 u55 u56 u57 u58 u59 u60 u61 u62 u63 u64 u65 u66 u67 u68 u69 u70 u71 u72 u73 u74 u75 u76 u77 u78 u79 u80 u81 u82 u83 u84 u85 u86 u87 u88 u89 u90 u91 u92 u93 u94 u95 u96 u97 u98 u99 u100 u101 u102 u103 : Value) :
    Code.wp Tryd.prog cErr9 (bodyPost Tryd.prog Tryd.f3 (fun e w' => e = .returned (.bool true) ∧ Below w0.heap.size w0 w')) ⟨#[.int .i64 n, u1, u2, .pointer (some ⟨pb, 0, none⟩), u4, .pointer (some ⟨sb, 0, none⟩), .pointer (some ⟨gb, 0, none⟩), u7, u8, u9, u10, u11, u12, u13, u14, u15, u16, u17, u18, u19, u20, u21, u22, u23, u24, u25, u26, u27, u28, u29, u30, u31, u32, u33, u34, u35, u36, u37, u38, u39, u40, u41, u42, u43, u44, u45, u46, u47, u48, u49, u50, u51, u52, u53, u54, u55, u56, u57, u58, u59, u60, u61, u62, u63, u64, u65, u66, u67, u68, u69, u70, u71, u72, u73, u74, u75, u76, u77, u78, u79, u80, u81, u82, u83, u84, u85, u86, u87, u88, u89, u90, u91, u92, u93, u94, u95, u96, u97, u98, u99, u100, u101, u102, u103], []⟩ w := by
  have hright := fun W => right_page ⟨k, d, x, l⟩ W
  simp only [Pag.v] at hright
  have hput := fun W gb (t : Tab W) => gput_no W gb n ⟨k, d, x, l⟩ t hno
  simp only [Pag.v] at hput
  rw [decide_eq_false (fun h => hno ⟨h, by omega, by omega⟩)] at hright
  obtain ⟨S, hS'⟩ : ∃ S, S = str l := ⟨_, rfl⟩
  rw [← hS'] at hright hK hput
  have T0 := Lib.hid hT
  have S0 := Lib.hid hS
  have G0 := Lib.hid hG
  have B0' := Lib.hid hb
  have Hlt := Lib.hid hlt
  have HK := Lib.hid hK
  clear hT hS hG hb hlt hK hS' hn
  clear hno
  subst he
  have q1 : (n == 4) = false := by simp; omega
  have q1' : decide (n = 4) = false := by simp; omega
  have q2 : decide (n < 0) = false := by simp; omega
  have q4 : decide (9 < n) = true := by simpa using hw
  have q3 : decide (0 ≤ n) = true := by simp; omega
  have q5 : decide (n < 64) = true := by simpa using hw2
  clear hw hw2
  conv => arg 2; whnf
  go_wp2_with fail
  with_reducible refine (hget w gb mb sb qb c 0 T0.out S0.out G0.out).mono ?_
  rintro e w5 ⟨rfl, hb5⟩
  have k7 := heap_alloc_new w5 (.cells #[.int .i64 k0, .int .i64 d0, .int .i64 x0, .string s0] 23)
  have b6 := below_al hb5 (.cells #[.int .i64 k0, .int .i64 d0, .int .i64 x0, .string s0] 23)
  have T6 := Lib.hid (T0.out.below b6)
  have S6 := Lib.hid (S0.out.below b6)
  have G6 := Lib.hid (G0.out.below b6)
  have K6 := Lib.hid (blk_keep HK.out b6)
  have B6 := Lib.hid (below_base B0'.out B0'.out.size b6)
  have c6 := blk_cell K6.out
  have z6 := lt_of_block K6.out
  clear hb5 b6 k7
  go_wp2_with fail
  with_reducible refine (hput _ gb T6.out).mono ?_
  rintro e w7 ⟨rfl, hb7⟩
  have T7 := Lib.hid (T6.out.below hb7)
  have S7 := Lib.hid (S6.out.below hb7)
  have G7 := Lib.hid (G6.out.below hb7)
  have K7 := Lib.hid (blk_keep K6.out hb7)
  have B7 := Lib.hid (below_base B6.out B6.out.size hb7)
  clear c6 z6 hb7
  have c6 := blk_cell K7.out
  have z6 := lt_of_block K7.out
  go_wp2_with fail
  with_reducible refine (hright _).mono ?_
  rintro e w8 ⟨rfl, hb8⟩
  have T8 := Lib.hid (T7.out.below hb8)
  have S8 := Lib.hid (S7.out.below hb8)
  have G8 := Lib.hid (G7.out.below hb8)
  have B8 := Lib.hid (below_base B7.out B7.out.size hb8)
  clear hb8
  go_wp2_with fail
  with_reducible refine (hget _ gb mb sb qb c 0 T8.out S8.out G8.out).mono ?_
  rintro e w9 ⟨rfl, hb9⟩
  have b9 := below_al hb9 (.cells #[.int .i64 k0, .int .i64 d0, .int .i64 x0, .string s0] 23)
  have B9 := Lib.hid (below_base B8.out B8.out.size b9)
  clear b9 hb9
  go_wp2_with fail
  go_ret
  exact ⟨rfl, B9.out⟩
set_option maxRecDepth 1000000 in
set_option maxHeartbeats 8000000 in
theorem err_no_far (w w0 : World) (gb mb sb qb c pb : Nat) (n k0 d0 x0 e0 k d x : Int) (s0 : ByteArray) (l : List UInt8) (hn : (Lit.int .i64 n).wf = true) (hT : Tab w) (hS : Sto w sb qb 10 c 4 Be) (hG : Grp w gb mb sb none0 0) (hK : w.heap[pb]? = some (.cells #[.int .i64 k, .int .i64 d, .int .i64 x, .string (str l)] 23 (0, 0))) (hb : Below w0.heap.size w0 w) (hlt : w0.heap.size ≤ pb ∧ pb < mb ∧ sb < mb ∧ qb < mb ∧ gtab < mb) (hget : ∀ (W : World) (gb mb sb qb c : Nat) (tk : Int), Tab W → Sto W sb qb 10 c 4 Be → Grp W gb mb sb none0 tk → Calls Tryd.prog 11 #[.pointer (some ⟨gb, 0, none⟩), .int .i64 n] W fun e' w' => e' = .returned (.tuple #[.agg #[.int .i64 k0, .int .i64 d0, .int .i64 x0, .string s0], .int .i64 e0]) ∧ Below W.heap.size W w') (hno : ¬ (Pag.ok ⟨k, d, x, l⟩ ∧ 0 ≤ n ∧ n < 64)) (hw : 64 ≤ n) (he : e0 = 12)
    (u1 u2 u4 u7 u8 u9 u10 u11 u12 u13 u14 u15 u16 u17 u18 u19 u20 u21 u22 u23 u24 u25 u26 u27 u28 u29 u30 u31 u32 u33 u34 u35 u36 u37 u38 u39 u40 u41 u42 u43 u44 u45 u46 u47 u48 u49 u50 u51 u52 u53 u54 u55 u56 u57 u58 u59 u60 u61 u62 u63 u64 u65 u66 u67 u68 u69 u70 u71 u72 u73 u74 u75 u76 u77 u78 u79 u80 u81 u82 u83 u84 u85 u86 u87 u88 u89 u90 u91 u92 u93 u94 u95 u96 u97 u98 u99 u100 u101 u102 u103 : Value) :
    Code.wp Tryd.prog cErr9 (bodyPost Tryd.prog Tryd.f3 (fun e w' => e = .returned (.bool true) ∧ Below w0.heap.size w0 w')) ⟨#[.int .i64 n, u1, u2, .pointer (some ⟨pb, 0, none⟩), u4, .pointer (some ⟨sb, 0, none⟩), .pointer (some ⟨gb, 0, none⟩), u7, u8, u9, u10, u11, u12, u13, u14, u15, u16, u17, u18, u19, u20, u21, u22, u23, u24, u25, u26, u27, u28, u29, u30, u31, u32, u33, u34, u35, u36, u37, u38, u39, u40, u41, u42, u43, u44, u45, u46, u47, u48, u49, u50, u51, u52, u53, u54, u55, u56, u57, u58, u59, u60, u61, u62, u63, u64, u65, u66, u67, u68, u69, u70, u71, u72, u73, u74, u75, u76, u77, u78, u79, u80, u81, u82, u83, u84, u85, u86, u87, u88, u89, u90, u91, u92, u93, u94, u95, u96, u97, u98, u99, u100, u101, u102, u103], []⟩ w := by
  have hright := fun W => right_page ⟨k, d, x, l⟩ W
  simp only [Pag.v] at hright
  have hput := fun W gb (t : Tab W) => gput_no W gb n ⟨k, d, x, l⟩ t hno
  simp only [Pag.v] at hput
  obtain ⟨S, hS'⟩ : ∃ S, S = str l := ⟨_, rfl⟩
  rw [← hS'] at hright hK hput
  have T0 := Lib.hid hT
  have S0 := Lib.hid hS
  have G0 := Lib.hid hG
  have B0' := Lib.hid hb
  have Hlt := Lib.hid hlt
  have HK := Lib.hid hK
  clear hT hS hG hb hlt hK hS' hn
  clear hno
  subst he
  have q1 : (n == 4) = false := by simp; omega
  have q1' : decide (n = 4) = false := by simp; omega
  have q2 : decide (n < 0) = false := by simp; omega
  have q4 : decide (9 < n) = true := by simp; omega
  have q3 : decide (0 ≤ n) = true := by simp; omega
  have q5 : decide (n < 64) = false := by simp; omega
  clear hw
  conv => arg 2; whnf
  go_wp2_with fail
  with_reducible refine (hget w gb mb sb qb c 0 T0.out S0.out G0.out).mono ?_
  rintro e w5 ⟨rfl, hb5⟩
  have k7 := heap_alloc_new w5 (.cells #[.int .i64 k0, .int .i64 d0, .int .i64 x0, .string s0] 23)
  have b6 := below_al hb5 (.cells #[.int .i64 k0, .int .i64 d0, .int .i64 x0, .string s0] 23)
  have T6 := Lib.hid (T0.out.below b6)
  have S6 := Lib.hid (S0.out.below b6)
  have G6 := Lib.hid (G0.out.below b6)
  have K6 := Lib.hid (blk_keep HK.out b6)
  have B6 := Lib.hid (below_base B0'.out B0'.out.size b6)
  have c6 := blk_cell K6.out
  have z6 := lt_of_block K6.out
  clear hb5 b6 k7
  go_wp2_with fail
  with_reducible refine (hput _ gb T6.out).mono ?_
  rintro e w7 ⟨rfl, hb7⟩
  have T7 := Lib.hid (T6.out.below hb7)
  have S7 := Lib.hid (S6.out.below hb7)
  have G7 := Lib.hid (G6.out.below hb7)
  have K7 := Lib.hid (blk_keep K6.out hb7)
  have B7 := Lib.hid (below_base B6.out B6.out.size hb7)
  clear c6 z6 hb7
  have c6 := blk_cell K7.out
  have z6 := lt_of_block K7.out
  go_wp2_with fail
  have T8 := T7
  have S8 := S7
  have G8 := G7
  have B8 := B7
  with_reducible refine (hget _ gb mb sb qb c 0 T8.out S8.out G8.out).mono ?_
  rintro e w9 ⟨rfl, hb9⟩
  have b9 := below_al hb9 (.cells #[.int .i64 k0, .int .i64 d0, .int .i64 x0, .string s0] 23)
  have B9 := Lib.hid (below_base B8.out B8.out.size b9)
  clear b9 hb9
  go_wp2_with fail
  go_ret
  exact ⟨rfl, B9.out⟩
set_option maxRecDepth 1000000 in
set_option maxHeartbeats 8000000 in
theorem err_yes_five (w w0 : World) (gb mb sb qb c pb : Nat) (n k0 d0 x0 e0 k d x : Int) (s0 : ByteArray) (l : List UInt8) (hn : (Lit.int .i64 n).wf = true) (hT : Tab w) (hS : Sto w sb qb 10 c 4 Be) (hG : Grp w gb mb sb none0 0) (hK : w.heap[pb]? = some (.cells #[.int .i64 k, .int .i64 d, .int .i64 x, .string (str l)] 23 (0, 0))) (hb : Below w0.heap.size w0 w) (hlt : w0.heap.size ≤ pb ∧ pb < mb ∧ sb < mb ∧ qb < mb ∧ gtab < mb) (hget : ∀ (W : World) (gb mb sb qb c : Nat) (tk : Int), Tab W → Sto W sb qb 10 c 4 Be → Grp W gb mb sb none0 tk → Calls Tryd.prog 11 #[.pointer (some ⟨gb, 0, none⟩), .int .i64 n] W fun e' w' => e' = .returned (.tuple #[.agg #[.int .i64 k0, .int .i64 d0, .int .i64 x0, .string s0], .int .i64 e0]) ∧ Below W.heap.size W w') (hok : Pag.ok ⟨k, d, x, l⟩) (h0 : 0 ≤ n) (h1 : n < 64) (hw : n = 5) (he : e0 = 2)
    (u1 u2 u4 u7 u8 u9 u10 u11 u12 u13 u14 u15 u16 u17 u18 u19 u20 u21 u22 u23 u24 u25 u26 u27 u28 u29 u30 u31 u32 u33 u34 u35 u36 u37 u38 u39 u40 u41 u42 u43 u44 u45 u46 u47 u48 u49 u50 u51 u52 u53 u54 u55 u56 u57 u58 u59 u60 u61 u62 u63 u64 u65 u66 u67 u68 u69 u70 u71 u72 u73 u74 u75 u76 u77 u78 u79 u80 u81 u82 u83 u84 u85 u86 u87 u88 u89 u90 u91 u92 u93 u94 u95 u96 u97 u98 u99 u100 u101 u102 u103 : Value) :
    Code.wp Tryd.prog cErr9 (bodyPost Tryd.prog Tryd.f3 (fun e w' => e = .returned (.bool true) ∧ Below w0.heap.size w0 w')) ⟨#[.int .i64 n, u1, u2, .pointer (some ⟨pb, 0, none⟩), u4, .pointer (some ⟨sb, 0, none⟩), .pointer (some ⟨gb, 0, none⟩), u7, u8, u9, u10, u11, u12, u13, u14, u15, u16, u17, u18, u19, u20, u21, u22, u23, u24, u25, u26, u27, u28, u29, u30, u31, u32, u33, u34, u35, u36, u37, u38, u39, u40, u41, u42, u43, u44, u45, u46, u47, u48, u49, u50, u51, u52, u53, u54, u55, u56, u57, u58, u59, u60, u61, u62, u63, u64, u65, u66, u67, u68, u69, u70, u71, u72, u73, u74, u75, u76, u77, u78, u79, u80, u81, u82, u83, u84, u85, u86, u87, u88, u89, u90, u91, u92, u93, u94, u95, u96, u97, u98, u99, u100, u101, u102, u103], []⟩ w := by
  have hright := fun W => right_page ⟨k, d, x, l⟩ W
  simp only [Pag.v] at hright
  have hput := fun W gb mb sb M tk (t : Tab W) (g : Grp W gb mb sb M tk) => gput_ok W gb mb sb M tk n ⟨k, d, x, l⟩ t g hok h0 h1
  have hget2 := fun W gb mb sb qb c tk (t : Tab W) (s : Sto W sb qb 10 c 4 Be) (g : Grp W gb mb sb (upd none0 n (Pag.bytes ⟨k, d, x, l⟩)) tk) => gget_any W gb mb sb qb 10 c 4 Be (upd none0 n (Pag.bytes ⟨k, d, x, l⟩)) tk n hn t s g (Pag.bytes ⟨k, d, x, l⟩) ⟨k, d, x, l⟩ (by unfold Gr.seen; rw [upd_same]) (.inl ⟨hok, rfl⟩)
  rw [decide_eq_true hok] at hright
  obtain ⟨M1, hM1⟩ : ∃ M1, M1 = upd none0 n (Pag.bytes ⟨k, d, x, l⟩) := ⟨_, rfl⟩
  rw [← hM1] at hget2
  have hput := fun W gb mb sb tk (t : Tab W) (g : Grp W gb mb sb none0 tk) => hput W gb mb sb none0 tk t g
  rw [← hM1] at hput
  simp only [Pag.v] at hput hget2
  have f1 : decide (0 ≤ n) = true := by simpa using h0
  have f2 : decide (n < 64) = true := by simpa using h1
  clear hM1 hok
  obtain ⟨S, hS'⟩ : ∃ S, S = str l := ⟨_, rfl⟩
  rw [← hS'] at hright hK hput hget2
  have T0 := Lib.hid hT
  have S0 := Lib.hid hS
  have G0 := Lib.hid hG
  have B0' := Lib.hid hb
  have Hlt := Lib.hid hlt
  have HK := Lib.hid hK
  clear hT hS hG hb hlt hK hS' hn
  clear h0 h1
  subst hw
  subst he
  conv => arg 2; whnf
  go_wp2_with fail
  with_reducible refine (hget w gb mb sb qb c 0 T0.out S0.out G0.out).mono ?_
  rintro e w5 ⟨rfl, hb5⟩
  have k7 := heap_alloc_new w5 (.cells #[.int .i64 k0, .int .i64 d0, .int .i64 x0, .string s0] 23)
  have b6 := below_al hb5 (.cells #[.int .i64 k0, .int .i64 d0, .int .i64 x0, .string s0] 23)
  have T6 := Lib.hid (T0.out.below b6)
  have S6 := Lib.hid (S0.out.below b6)
  have G6 := Lib.hid (G0.out.below b6)
  have K6 := Lib.hid (blk_keep HK.out b6)
  have B6 := Lib.hid (below_base B0'.out B0'.out.size b6)
  have c6 := blk_cell K6.out
  have z6 := lt_of_block K6.out
  clear hb5 b6 k7
  go_wp2_with fail
  with_reducible refine (hput _ gb mb sb 0 T6.out G6.out).mono ?_
  rintro e w7 ⟨rfl, g7, k7⟩
  have T7 := Lib.hid (T6.out.keep k7 (by have := Hlt.out; omega))
  have S7 := Lib.hid (S6.out.keep k7 (by have := Hlt.out; omega) (by have := Hlt.out; omega))
  have G7 := Lib.hid g7
  have K7 := Lib.hid (k7.blk K6.out (by have := Hlt.out; omega))
  have B7 := Lib.hid (below_keep B6.out B6.out.size k7 (fun i hi => by rw [hi]; have := Hlt.out; omega))
  clear c6 z6 g7 k7
  have c6 := blk_cell K7.out
  have z6 := lt_of_block K7.out
  go_wp2_with fail
  with_reducible refine (hright _).mono ?_
  rintro e w8 ⟨rfl, hb8⟩
  have T8 := Lib.hid (T7.out.below hb8)
  have S8 := Lib.hid (S7.out.below hb8)
  have G8 := Lib.hid (G7.out.below hb8)
  have K8 := Lib.hid (blk_keep K7.out hb8)
  have B8 := Lib.hid (below_base B7.out B7.out.size hb8)
  clear c6 z6 hb8
  go_wp2_with fail
  with_reducible refine (hget2 _ gb mb sb qb c 0 T8.out S8.out G8.out).mono ?_
  rintro e w9 ⟨rfl, hb9⟩
  have q12 := heap_alloc_new w9 (.cells #[.int .i64 k, .int .i64 d, .int .i64 x, .string S] 23)
  have b9 := below_al hb9 (.cells #[.int .i64 k, .int .i64 d, .int .i64 x, .string S] 23)
  have K9 := blk_keep K8.out b9
  have c12 := blk_cell q12
  have c9 := blk_cell K9
  have z9 := lt_of_block K9
  have B9 := Lib.hid (below_base B8.out B8.out.size b9)
  clear q12 b9 K9 hb9
  go_wp2_with fail
  go_ret
  exact ⟨rfl, B9.out⟩
set_option maxRecDepth 1000000 in
set_option maxHeartbeats 8000000 in
theorem err_no_five (w w0 : World) (gb mb sb qb c pb : Nat) (n k0 d0 x0 e0 k d x : Int) (s0 : ByteArray) (l : List UInt8) (hn : (Lit.int .i64 n).wf = true) (hT : Tab w) (hS : Sto w sb qb 10 c 4 Be) (hG : Grp w gb mb sb none0 0) (hK : w.heap[pb]? = some (.cells #[.int .i64 k, .int .i64 d, .int .i64 x, .string (str l)] 23 (0, 0))) (hb : Below w0.heap.size w0 w) (hlt : w0.heap.size ≤ pb ∧ pb < mb ∧ sb < mb ∧ qb < mb ∧ gtab < mb) (hget : ∀ (W : World) (gb mb sb qb c : Nat) (tk : Int), Tab W → Sto W sb qb 10 c 4 Be → Grp W gb mb sb none0 tk → Calls Tryd.prog 11 #[.pointer (some ⟨gb, 0, none⟩), .int .i64 n] W fun e' w' => e' = .returned (.tuple #[.agg #[.int .i64 k0, .int .i64 d0, .int .i64 x0, .string s0], .int .i64 e0]) ∧ Below W.heap.size W w') (hno : ¬ (Pag.ok ⟨k, d, x, l⟩ ∧ 0 ≤ n ∧ n < 64)) (hw : n = 5) (he : e0 = 2)
    (u1 u2 u4 u7 u8 u9 u10 u11 u12 u13 u14 u15 u16 u17 u18 u19 u20 u21 u22 u23 u24 u25 u26 u27 u28 u29 u30 u31 u32 u33 u34 u35 u36 u37 u38 u39 u40 u41 u42 u43 u44 u45 u46 u47 u48 u49 u50 u51 u52 u53 u54 u55 u56 u57 u58 u59 u60 u61 u62 u63 u64 u65 u66 u67 u68 u69 u70 u71 u72 u73 u74 u75 u76 u77 u78 u79 u80 u81 u82 u83 u84 u85 u86 u87 u88 u89 u90 u91 u92 u93 u94 u95 u96 u97 u98 u99 u100 u101 u102 u103 : Value) :
    Code.wp Tryd.prog cErr9 (bodyPost Tryd.prog Tryd.f3 (fun e w' => e = .returned (.bool true) ∧ Below w0.heap.size w0 w')) ⟨#[.int .i64 n, u1, u2, .pointer (some ⟨pb, 0, none⟩), u4, .pointer (some ⟨sb, 0, none⟩), .pointer (some ⟨gb, 0, none⟩), u7, u8, u9, u10, u11, u12, u13, u14, u15, u16, u17, u18, u19, u20, u21, u22, u23, u24, u25, u26, u27, u28, u29, u30, u31, u32, u33, u34, u35, u36, u37, u38, u39, u40, u41, u42, u43, u44, u45, u46, u47, u48, u49, u50, u51, u52, u53, u54, u55, u56, u57, u58, u59, u60, u61, u62, u63, u64, u65, u66, u67, u68, u69, u70, u71, u72, u73, u74, u75, u76, u77, u78, u79, u80, u81, u82, u83, u84, u85, u86, u87, u88, u89, u90, u91, u92, u93, u94, u95, u96, u97, u98, u99, u100, u101, u102, u103], []⟩ w := by
  have hright := fun W => right_page ⟨k, d, x, l⟩ W
  simp only [Pag.v] at hright
  have hput := fun W gb (t : Tab W) => gput_no W gb n ⟨k, d, x, l⟩ t hno
  simp only [Pag.v] at hput
  rw [decide_eq_false (fun h => hno ⟨h, by omega, by omega⟩)] at hright
  obtain ⟨S, hS'⟩ : ∃ S, S = str l := ⟨_, rfl⟩
  rw [← hS'] at hright hK hput
  have T0 := Lib.hid hT
  have S0 := Lib.hid hS
  have G0 := Lib.hid hG
  have B0' := Lib.hid hb
  have Hlt := Lib.hid hlt
  have HK := Lib.hid hK
  clear hT hS hG hb hlt hK hS' hn
  clear hno
  subst hw
  subst he
  conv => arg 2; whnf
  go_wp2_with fail
  with_reducible refine (hget w gb mb sb qb c 0 T0.out S0.out G0.out).mono ?_
  rintro e w5 ⟨rfl, hb5⟩
  have k7 := heap_alloc_new w5 (.cells #[.int .i64 k0, .int .i64 d0, .int .i64 x0, .string s0] 23)
  have b6 := below_al hb5 (.cells #[.int .i64 k0, .int .i64 d0, .int .i64 x0, .string s0] 23)
  have T6 := Lib.hid (T0.out.below b6)
  have S6 := Lib.hid (S0.out.below b6)
  have G6 := Lib.hid (G0.out.below b6)
  have K6 := Lib.hid (blk_keep HK.out b6)
  have B6 := Lib.hid (below_base B0'.out B0'.out.size b6)
  have c6 := blk_cell K6.out
  have z6 := lt_of_block K6.out
  clear hb5 b6 k7
  go_wp2_with fail
  with_reducible refine (hput _ gb T6.out).mono ?_
  rintro e w7 ⟨rfl, hb7⟩
  have T7 := Lib.hid (T6.out.below hb7)
  have S7 := Lib.hid (S6.out.below hb7)
  have G7 := Lib.hid (G6.out.below hb7)
  have K7 := Lib.hid (blk_keep K6.out hb7)
  have B7 := Lib.hid (below_base B6.out B6.out.size hb7)
  clear c6 z6 hb7
  have c6 := blk_cell K7.out
  have z6 := lt_of_block K7.out
  go_wp2_with fail
  with_reducible refine (hright _).mono ?_
  rintro e w8 ⟨rfl, hb8⟩
  have T8 := Lib.hid (T7.out.below hb8)
  have S8 := Lib.hid (S7.out.below hb8)
  have G8 := Lib.hid (G7.out.below hb8)
  have B8 := Lib.hid (below_base B7.out B7.out.size hb8)
  clear hb8
  go_wp2_with fail
  with_reducible refine (hget _ gb mb sb qb c 0 T8.out S8.out G8.out).mono ?_
  rintro e w9 ⟨rfl, hb9⟩
  have b9 := below_al hb9 (.cells #[.int .i64 k0, .int .i64 d0, .int .i64 x0, .string s0] 23)
  have B9 := Lib.hid (below_base B8.out B8.out.size b9)
  clear b9 hb9
  go_wp2_with fail
  go_ret
  exact ⟨rfl, B9.out⟩
set_option maxRecDepth 1000000 in
set_option maxHeartbeats 8000000 in
theorem err_yes_fine (w w0 : World) (gb mb sb qb c pb : Nat) (n k0 d0 x0 e0 k d x : Int) (s0 : ByteArray) (l : List UInt8) (hn : (Lit.int .i64 n).wf = true) (hT : Tab w) (hS : Sto w sb qb 10 c 4 Be) (hG : Grp w gb mb sb none0 0) (hK : w.heap[pb]? = some (.cells #[.int .i64 k, .int .i64 d, .int .i64 x, .string (str l)] 23 (0, 0))) (hb : Below w0.heap.size w0 w) (hlt : w0.heap.size ≤ pb ∧ pb < mb ∧ sb < mb ∧ qb < mb ∧ gtab < mb) (hget : ∀ (W : World) (gb mb sb qb c : Nat) (tk : Int), Tab W → Sto W sb qb 10 c 4 Be → Grp W gb mb sb none0 tk → Calls Tryd.prog 11 #[.pointer (some ⟨gb, 0, none⟩), .int .i64 n] W fun e' w' => e' = .returned (.tuple #[.agg #[.int .i64 k0, .int .i64 d0, .int .i64 x0, .string s0], .int .i64 e0]) ∧ Below W.heap.size W w') (hok : Pag.ok ⟨k, d, x, l⟩) (h0 : 0 ≤ n) (h1 : n < 64) (hw4 : n ≠ 4) (hw5 : n ≠ 5) (hw : 0 ≤ n) (hw9 : n ≤ 9) (he : e0 = 0)
    (u1 u2 u4 u7 u8 u9 u10 u11 u12 u13 u14 u15 u16 u17 u18 u19 u20 u21 u22 u23 u24 u25 u26 u27 u28 u29 u30 u31 u32 u33 u34 u35 u36 u37 u38 u39 u40 u41 u42 u43 u44 u45 u46 u47 u48 u49 u50 u51 u52 u53 u54 u55 u56 u57 u58 u59 u60 u61 u62 u63 u64 u65 u66 u67 u68 u69 u70 u71 u72 u73 u74 u75 u76 u77 u78 u79 u80 u81 u82 u83 u84 u85 u86 u87 u88 u89 u90 u91 u92 u93 u94 u95 u96 u97 u98 u99 u100 u101 u102 u103 : Value) :
    Code.wp Tryd.prog cErr9 (bodyPost Tryd.prog Tryd.f3 (fun e w' => e = .returned (.bool true) ∧ Below w0.heap.size w0 w')) ⟨#[.int .i64 n, u1, u2, .pointer (some ⟨pb, 0, none⟩), u4, .pointer (some ⟨sb, 0, none⟩), .pointer (some ⟨gb, 0, none⟩), u7, u8, u9, u10, u11, u12, u13, u14, u15, u16, u17, u18, u19, u20, u21, u22, u23, u24, u25, u26, u27, u28, u29, u30, u31, u32, u33, u34, u35, u36, u37, u38, u39, u40, u41, u42, u43, u44, u45, u46, u47, u48, u49, u50, u51, u52, u53, u54, u55, u56, u57, u58, u59, u60, u61, u62, u63, u64, u65, u66, u67, u68, u69, u70, u71, u72, u73, u74, u75, u76, u77, u78, u79, u80, u81, u82, u83, u84, u85, u86, u87, u88, u89, u90, u91, u92, u93, u94, u95, u96, u97, u98, u99, u100, u101, u102, u103], []⟩ w := by
  have hright := fun W => right_page ⟨k, d, x, l⟩ W
  simp only [Pag.v] at hright
  have hput := fun W gb mb sb M tk (t : Tab W) (g : Grp W gb mb sb M tk) => gput_ok W gb mb sb M tk n ⟨k, d, x, l⟩ t g hok h0 h1
  have hget2 := fun W gb mb sb qb c tk (t : Tab W) (s : Sto W sb qb 10 c 4 Be) (g : Grp W gb mb sb (upd none0 n (Pag.bytes ⟨k, d, x, l⟩)) tk) => gget_any W gb mb sb qb 10 c 4 Be (upd none0 n (Pag.bytes ⟨k, d, x, l⟩)) tk n hn t s g (Pag.bytes ⟨k, d, x, l⟩) ⟨k, d, x, l⟩ (by unfold Gr.seen; rw [upd_same]) (.inl ⟨hok, rfl⟩)
  rw [decide_eq_true hok] at hright
  obtain ⟨M1, hM1⟩ : ∃ M1, M1 = upd none0 n (Pag.bytes ⟨k, d, x, l⟩) := ⟨_, rfl⟩
  rw [← hM1] at hget2
  have hput := fun W gb mb sb tk (t : Tab W) (g : Grp W gb mb sb none0 tk) => hput W gb mb sb none0 tk t g
  rw [← hM1] at hput
  simp only [Pag.v] at hput hget2
  have f1 : decide (0 ≤ n) = true := by simpa using h0
  have f2 : decide (n < 64) = true := by simpa using h1
  clear hM1 hok
  obtain ⟨S, hS'⟩ : ∃ S, S = str l := ⟨_, rfl⟩
  rw [← hS'] at hright hK hput hget2
  have T0 := Lib.hid hT
  have S0 := Lib.hid hS
  have G0 := Lib.hid hG
  have B0' := Lib.hid hb
  have Hlt := Lib.hid hlt
  have HK := Lib.hid hK
  clear hT hS hG hb hlt hK hS' hn
  clear h0 h1
  subst he
  have q1 : (n == 4) = false := by simp; omega
  have q1' : decide (n = 4) = false := by simp; omega
  have q6 : (n == 5) = false := by simp; omega
  have q6' : decide (n = 5) = false := by simp; omega
  have q2 : decide (n < 0) = false := by simp; omega
  have q4 : decide (9 < n) = false := by simp; omega
  have q3 : decide (0 ≤ n) = true := by simp; omega
  have q5 : decide (n < 64) = true := by simp; omega
  clear hw4 hw5 hw hw9
  conv => arg 2; whnf
  go_wp2_with fail
  with_reducible refine (hget w gb mb sb qb c 0 T0.out S0.out G0.out).mono ?_
  rintro e w5 ⟨rfl, hb5⟩
  have k7 := heap_alloc_new w5 (.cells #[.int .i64 k0, .int .i64 d0, .int .i64 x0, .string s0] 23)
  have b6 := below_al hb5 (.cells #[.int .i64 k0, .int .i64 d0, .int .i64 x0, .string s0] 23)
  have T6 := Lib.hid (T0.out.below b6)
  have S6 := Lib.hid (S0.out.below b6)
  have G6 := Lib.hid (G0.out.below b6)
  have K6 := Lib.hid (blk_keep HK.out b6)
  have B6 := Lib.hid (below_base B0'.out B0'.out.size b6)
  have c6 := blk_cell K6.out
  have z6 := lt_of_block K6.out
  clear hb5 b6 k7
  go_wp2_with fail
  with_reducible refine (hput _ gb mb sb 0 T6.out G6.out).mono ?_
  rintro e w7 ⟨rfl, g7, k7⟩
  have T7 := Lib.hid (T6.out.keep k7 (by have := Hlt.out; omega))
  have S7 := Lib.hid (S6.out.keep k7 (by have := Hlt.out; omega) (by have := Hlt.out; omega))
  have G7 := Lib.hid g7
  have K7 := Lib.hid (k7.blk K6.out (by have := Hlt.out; omega))
  have B7 := Lib.hid (below_keep B6.out B6.out.size k7 (fun i hi => by rw [hi]; have := Hlt.out; omega))
  clear c6 z6 g7 k7
  have c6 := blk_cell K7.out
  have z6 := lt_of_block K7.out
  go_wp2_with fail
  with_reducible refine (hright _).mono ?_
  rintro e w8 ⟨rfl, hb8⟩
  have T8 := Lib.hid (T7.out.below hb8)
  have S8 := Lib.hid (S7.out.below hb8)
  have G8 := Lib.hid (G7.out.below hb8)
  have K8 := Lib.hid (blk_keep K7.out hb8)
  have B8 := Lib.hid (below_base B7.out B7.out.size hb8)
  clear c6 z6 hb8
  go_wp2_with fail
  with_reducible refine (hget2 _ gb mb sb qb c 0 T8.out S8.out G8.out).mono ?_
  rintro e w9 ⟨rfl, hb9⟩
  have q12 := heap_alloc_new w9 (.cells #[.int .i64 k, .int .i64 d, .int .i64 x, .string S] 23)
  have b9 := below_al hb9 (.cells #[.int .i64 k, .int .i64 d, .int .i64 x, .string S] 23)
  have K9 := blk_keep K8.out b9
  have c12 := blk_cell q12
  have c9 := blk_cell K9
  have z9 := lt_of_block K9
  have B9 := Lib.hid (below_base B8.out B8.out.size b9)
  clear q12 b9 K9 hb9
  go_wp2_with fail
  go_ret
  exact ⟨rfl, B9.out⟩
set_option maxRecDepth 1000000 in
set_option maxHeartbeats 8000000 in
theorem err_no_fine (w w0 : World) (gb mb sb qb c pb : Nat) (n k0 d0 x0 e0 k d x : Int) (s0 : ByteArray) (l : List UInt8) (hn : (Lit.int .i64 n).wf = true) (hT : Tab w) (hS : Sto w sb qb 10 c 4 Be) (hG : Grp w gb mb sb none0 0) (hK : w.heap[pb]? = some (.cells #[.int .i64 k, .int .i64 d, .int .i64 x, .string (str l)] 23 (0, 0))) (hb : Below w0.heap.size w0 w) (hlt : w0.heap.size ≤ pb ∧ pb < mb ∧ sb < mb ∧ qb < mb ∧ gtab < mb) (hget : ∀ (W : World) (gb mb sb qb c : Nat) (tk : Int), Tab W → Sto W sb qb 10 c 4 Be → Grp W gb mb sb none0 tk → Calls Tryd.prog 11 #[.pointer (some ⟨gb, 0, none⟩), .int .i64 n] W fun e' w' => e' = .returned (.tuple #[.agg #[.int .i64 k0, .int .i64 d0, .int .i64 x0, .string s0], .int .i64 e0]) ∧ Below W.heap.size W w') (hno : ¬ (Pag.ok ⟨k, d, x, l⟩ ∧ 0 ≤ n ∧ n < 64)) (hw4 : n ≠ 4) (hw5 : n ≠ 5) (hw : 0 ≤ n) (hw9 : n ≤ 9) (he : e0 = 0)
    (u1 u2 u4 u7 u8 u9 u10 u11 u12 u13 u14 u15 u16 u17 u18 u19 u20 u21 u22 u23 u24 u25 u26 u27 u28 u29 u30 u31 u32 u33 u34 u35 u36 u37 u38 u39 u40 u41 u42 u43 u44 u45 u46 u47 u48 u49 u50 u51 u52 u53 u54 u55 u56 u57 u58 u59 u60 u61 u62 u63 u64 u65 u66 u67 u68 u69 u70 u71 u72 u73 u74 u75 u76 u77 u78 u79 u80 u81 u82 u83 u84 u85 u86 u87 u88 u89 u90 u91 u92 u93 u94 u95 u96 u97 u98 u99 u100 u101 u102 u103 : Value) :
    Code.wp Tryd.prog cErr9 (bodyPost Tryd.prog Tryd.f3 (fun e w' => e = .returned (.bool true) ∧ Below w0.heap.size w0 w')) ⟨#[.int .i64 n, u1, u2, .pointer (some ⟨pb, 0, none⟩), u4, .pointer (some ⟨sb, 0, none⟩), .pointer (some ⟨gb, 0, none⟩), u7, u8, u9, u10, u11, u12, u13, u14, u15, u16, u17, u18, u19, u20, u21, u22, u23, u24, u25, u26, u27, u28, u29, u30, u31, u32, u33, u34, u35, u36, u37, u38, u39, u40, u41, u42, u43, u44, u45, u46, u47, u48, u49, u50, u51, u52, u53, u54, u55, u56, u57, u58, u59, u60, u61, u62, u63, u64, u65, u66, u67, u68, u69, u70, u71, u72, u73, u74, u75, u76, u77, u78, u79, u80, u81, u82, u83, u84, u85, u86, u87, u88, u89, u90, u91, u92, u93, u94, u95, u96, u97, u98, u99, u100, u101, u102, u103], []⟩ w := by
  have hright := fun W => right_page ⟨k, d, x, l⟩ W
  simp only [Pag.v] at hright
  have hput := fun W gb (t : Tab W) => gput_no W gb n ⟨k, d, x, l⟩ t hno
  simp only [Pag.v] at hput
  rw [decide_eq_false (fun h => hno ⟨h, by omega, by omega⟩)] at hright
  obtain ⟨S, hS'⟩ : ∃ S, S = str l := ⟨_, rfl⟩
  rw [← hS'] at hright hK hput
  have T0 := Lib.hid hT
  have S0 := Lib.hid hS
  have G0 := Lib.hid hG
  have B0' := Lib.hid hb
  have Hlt := Lib.hid hlt
  have HK := Lib.hid hK
  clear hT hS hG hb hlt hK hS' hn
  clear hno
  subst he
  have q1 : (n == 4) = false := by simp; omega
  have q1' : decide (n = 4) = false := by simp; omega
  have q6 : (n == 5) = false := by simp; omega
  have q6' : decide (n = 5) = false := by simp; omega
  have q2 : decide (n < 0) = false := by simp; omega
  have q4 : decide (9 < n) = false := by simp; omega
  have q3 : decide (0 ≤ n) = true := by simp; omega
  have q5 : decide (n < 64) = true := by simp; omega
  clear hw4 hw5 hw hw9
  conv => arg 2; whnf
  go_wp2_with fail
  with_reducible refine (hget w gb mb sb qb c 0 T0.out S0.out G0.out).mono ?_
  rintro e w5 ⟨rfl, hb5⟩
  have k7 := heap_alloc_new w5 (.cells #[.int .i64 k0, .int .i64 d0, .int .i64 x0, .string s0] 23)
  have b6 := below_al hb5 (.cells #[.int .i64 k0, .int .i64 d0, .int .i64 x0, .string s0] 23)
  have T6 := Lib.hid (T0.out.below b6)
  have S6 := Lib.hid (S0.out.below b6)
  have G6 := Lib.hid (G0.out.below b6)
  have K6 := Lib.hid (blk_keep HK.out b6)
  have B6 := Lib.hid (below_base B0'.out B0'.out.size b6)
  have c6 := blk_cell K6.out
  have z6 := lt_of_block K6.out
  clear hb5 b6 k7
  go_wp2_with fail
  with_reducible refine (hput _ gb T6.out).mono ?_
  rintro e w7 ⟨rfl, hb7⟩
  have T7 := Lib.hid (T6.out.below hb7)
  have S7 := Lib.hid (S6.out.below hb7)
  have G7 := Lib.hid (G6.out.below hb7)
  have K7 := Lib.hid (blk_keep K6.out hb7)
  have B7 := Lib.hid (below_base B6.out B6.out.size hb7)
  clear c6 z6 hb7
  have c6 := blk_cell K7.out
  have z6 := lt_of_block K7.out
  go_wp2_with fail
  with_reducible refine (hright _).mono ?_
  rintro e w8 ⟨rfl, hb8⟩
  have T8 := Lib.hid (T7.out.below hb8)
  have S8 := Lib.hid (S7.out.below hb8)
  have G8 := Lib.hid (G7.out.below hb8)
  have B8 := Lib.hid (below_base B7.out B7.out.size hb8)
  clear hb8
  go_wp2_with fail
  with_reducible refine (hget _ gb mb sb qb c 0 T8.out S8.out G8.out).mono ?_
  rintro e w9 ⟨rfl, hb9⟩
  have b9 := below_al hb9 (.cells #[.int .i64 k0, .int .i64 d0, .int .i64 x0, .string s0] 23)
  have B9 := Lib.hid (below_base B8.out B8.out.size b9)
  clear b9 hb9
  go_wp2_with fail
  go_ret
  exact ⟨rfl, B9.out⟩
theorem err_all (w w0 : World) (gb mb sb qb c pb : Nat) (n k0 d0 x0 e0 k d x : Int) (s0 : ByteArray) (l : List UInt8) (hn : (Lit.int .i64 n).wf = true) (hT : Tab w) (hS : Sto w sb qb 10 c 4 Be) (hG : Grp w gb mb sb none0 0) (hK : w.heap[pb]? = some (.cells #[.int .i64 k, .int .i64 d, .int .i64 x, .string (str l)] 23 (0, 0))) (hb : Below w0.heap.size w0 w) (hlt : w0.heap.size ≤ pb ∧ pb < mb ∧ sb < mb ∧ qb < mb ∧ gtab < mb) (hget : ∀ (W : World) (gb mb sb qb c : Nat) (tk : Int), Tab W → Sto W sb qb 10 c 4 Be → Grp W gb mb sb none0 tk → Calls Tryd.prog 11 #[.pointer (some ⟨gb, 0, none⟩), .int .i64 n] W fun e' w' => e' = .returned (.tuple #[.agg #[.int .i64 k0, .int .i64 d0, .int .i64 x0, .string s0], .int .i64 e0]) ∧ Below W.heap.size W w') (hw : Wants n e0)
    (u1 u2 u4 u7 u8 u9 u10 u11 u12 u13 u14 u15 u16 u17 u18 u19 u20 u21 u22 u23 u24 u25 u26 u27 u28 u29 u30 u31 u32 u33 u34 u35 u36 u37 u38 u39 u40 u41 u42 u43 u44 u45 u46 u47 u48 u49 u50 u51 u52 u53 u54 u55 u56 u57 u58 u59 u60 u61 u62 u63 u64 u65 u66 u67 u68 u69 u70 u71 u72 u73 u74 u75 u76 u77 u78 u79 u80 u81 u82 u83 u84 u85 u86 u87 u88 u89 u90 u91 u92 u93 u94 u95 u96 u97 u98 u99 u100 u101 u102 u103 : Value) :
    Code.wp Tryd.prog cErr9 (bodyPost Tryd.prog Tryd.f3 (fun e w' => e = .returned (.bool true) ∧ Below w0.heap.size w0 w')) ⟨#[.int .i64 n, u1, u2, .pointer (some ⟨pb, 0, none⟩), u4, .pointer (some ⟨sb, 0, none⟩), .pointer (some ⟨gb, 0, none⟩), u7, u8, u9, u10, u11, u12, u13, u14, u15, u16, u17, u18, u19, u20, u21, u22, u23, u24, u25, u26, u27, u28, u29, u30, u31, u32, u33, u34, u35, u36, u37, u38, u39, u40, u41, u42, u43, u44, u45, u46, u47, u48, u49, u50, u51, u52, u53, u54, u55, u56, u57, u58, u59, u60, u61, u62, u63, u64, u65, u66, u67, u68, u69, u70, u71, u72, u73, u74, u75, u76, u77, u78, u79, u80, u81, u82, u83, u84, u85, u86, u87, u88, u89, u90, u91, u92, u93, u94, u95, u96, u97, u98, u99, u100, u101, u102, u103], []⟩ w := by
  by_cases hm : Pag.ok ⟨k, d, x, l⟩ ∧ 0 ≤ n ∧ n < 64
  · obtain ⟨hok, h0, h1⟩ := hm
    rcases hw with ⟨a, b⟩ | ⟨_, a | a, b⟩ | ⟨a, b⟩ | ⟨a1, a2, a3, a4, b⟩
    · exact err_yes_four w w0 gb mb sb qb c pb n k0 d0 x0 e0 k d x s0 l hn hT hS hG hK hb hlt hget hok h0 h1 a b _ _ _ _ _ _ _ _ _ _ _ _ _ _ _ _ _ _ _ _ _ _ _ _ _ _ _ _ _ _ _ _ _ _ _ _ _ _ _ _ _ _ _ _ _ _ _ _ _ _ _ _ _ _ _ _ _ _ _ _ _ _ _ _ _ _ _ _ _ _ _ _ _ _ _ _ _ _ _ _ _ _ _ _ _ _ _ _ _ _ _ _ _ _ _ _ _ _ _ _
    · omega
    · exact err_yes_hi w w0 gb mb sb qb c pb n k0 d0 x0 e0 k d x s0 l hn hT hS hG hK hb hlt hget hok h0 h1 a h1 b _ _ _ _ _ _ _ _ _ _ _ _ _ _ _ _ _ _ _ _ _ _ _ _ _ _ _ _ _ _ _ _ _ _ _ _ _ _ _ _ _ _ _ _ _ _ _ _ _ _ _ _ _ _ _ _ _ _ _ _ _ _ _ _ _ _ _ _ _ _ _ _ _ _ _ _ _ _ _ _ _ _ _ _ _ _ _ _ _ _ _ _ _ _ _ _ _ _ _ _
    · exact err_yes_five w w0 gb mb sb qb c pb n k0 d0 x0 e0 k d x s0 l hn hT hS hG hK hb hlt hget hok h0 h1 a b _ _ _ _ _ _ _ _ _ _ _ _ _ _ _ _ _ _ _ _ _ _ _ _ _ _ _ _ _ _ _ _ _ _ _ _ _ _ _ _ _ _ _ _ _ _ _ _ _ _ _ _ _ _ _ _ _ _ _ _ _ _ _ _ _ _ _ _ _ _ _ _ _ _ _ _ _ _ _ _ _ _ _ _ _ _ _ _ _ _ _ _ _ _ _ _ _ _ _ _
    · exact err_yes_fine w w0 gb mb sb qb c pb n k0 d0 x0 e0 k d x s0 l hn hT hS hG hK hb hlt hget hok h0 h1 a1 a2 a3 a4 b _ _ _ _ _ _ _ _ _ _ _ _ _ _ _ _ _ _ _ _ _ _ _ _ _ _ _ _ _ _ _ _ _ _ _ _ _ _ _ _ _ _ _ _ _ _ _ _ _ _ _ _ _ _ _ _ _ _ _ _ _ _ _ _ _ _ _ _ _ _ _ _ _ _ _ _ _ _ _ _ _ _ _ _ _ _ _ _ _ _ _ _ _ _ _ _ _ _ _ _
  · rcases hw with ⟨a, b⟩ | ⟨_, a | a, b⟩ | ⟨a, b⟩ | ⟨a1, a2, a3, a4, b⟩
    · exact err_no_four w w0 gb mb sb qb c pb n k0 d0 x0 e0 k d x s0 l hn hT hS hG hK hb hlt hget hm a b _ _ _ _ _ _ _ _ _ _ _ _ _ _ _ _ _ _ _ _ _ _ _ _ _ _ _ _ _ _ _ _ _ _ _ _ _ _ _ _ _ _ _ _ _ _ _ _ _ _ _ _ _ _ _ _ _ _ _ _ _ _ _ _ _ _ _ _ _ _ _ _ _ _ _ _ _ _ _ _ _ _ _ _ _ _ _ _ _ _ _ _ _ _ _ _ _ _ _ _
    · exact err_no_lo w w0 gb mb sb qb c pb n k0 d0 x0 e0 k d x s0 l hn hT hS hG hK hb hlt hget hm a b _ _ _ _ _ _ _ _ _ _ _ _ _ _ _ _ _ _ _ _ _ _ _ _ _ _ _ _ _ _ _ _ _ _ _ _ _ _ _ _ _ _ _ _ _ _ _ _ _ _ _ _ _ _ _ _ _ _ _ _ _ _ _ _ _ _ _ _ _ _ _ _ _ _ _ _ _ _ _ _ _ _ _ _ _ _ _ _ _ _ _ _ _ _ _ _ _ _ _ _
    · by_cases h64 : n < 64
      · exact err_no_hi w w0 gb mb sb qb c pb n k0 d0 x0 e0 k d x s0 l hn hT hS hG hK hb hlt hget hm a h64 b _ _ _ _ _ _ _ _ _ _ _ _ _ _ _ _ _ _ _ _ _ _ _ _ _ _ _ _ _ _ _ _ _ _ _ _ _ _ _ _ _ _ _ _ _ _ _ _ _ _ _ _ _ _ _ _ _ _ _ _ _ _ _ _ _ _ _ _ _ _ _ _ _ _ _ _ _ _ _ _ _ _ _ _ _ _ _ _ _ _ _ _ _ _ _ _ _ _ _ _
      · exact err_no_far w w0 gb mb sb qb c pb n k0 d0 x0 e0 k d x s0 l hn hT hS hG hK hb hlt hget hm (by omega) b _ _ _ _ _ _ _ _ _ _ _ _ _ _ _ _ _ _ _ _ _ _ _ _ _ _ _ _ _ _ _ _ _ _ _ _ _ _ _ _ _ _ _ _ _ _ _ _ _ _ _ _ _ _ _ _ _ _ _ _ _ _ _ _ _ _ _ _ _ _ _ _ _ _ _ _ _ _ _ _ _ _ _ _ _ _ _ _ _ _ _ _ _ _ _ _ _ _ _ _
    · exact err_no_five w w0 gb mb sb qb c pb n k0 d0 x0 e0 k d x s0 l hn hT hS hG hK hb hlt hget hm a b _ _ _ _ _ _ _ _ _ _ _ _ _ _ _ _ _ _ _ _ _ _ _ _ _ _ _ _ _ _ _ _ _ _ _ _ _ _ _ _ _ _ _ _ _ _ _ _ _ _ _ _ _ _ _ _ _ _ _ _ _ _ _ _ _ _ _ _ _ _ _ _ _ _ _ _ _ _ _ _ _ _ _ _ _ _ _ _ _ _ _ _ _ _ _ _ _ _ _ _
    · exact err_no_fine w w0 gb mb sb qb c pb n k0 d0 x0 e0 k d x s0 l hn hT hS hG hK hb hlt hget hm a1 a2 a3 a4 b _ _ _ _ _ _ _ _ _ _ _ _ _ _ _ _ _ _ _ _ _ _ _ _ _ _ _ _ _ _ _ _ _ _ _ _ _ _ _ _ _ _ _ _ _ _ _ _ _ _ _ _ _ _ _ _ _ _ _ _ _ _ _ _ _ _ _ _ _ _ _ _ _ _ _ _ _ _ _ _ _ _ _ _ _ _ _ _ _ _ _ _ _ _ _ _ _ _ _ _
set_option maxRecDepth 1000000 in
set_option maxHeartbeats 8000000 in
theorem errors_any (n k d x : Int) (s : ByteArray) (w : World) (ht : Tab w) (hn : (Lit.int .i64 n).wf = true) :
    Calls Tryd.prog 3 #[.int .i64 n, .agg #[.int .i64 k, .int .i64 d, .int .i64 x, .string s]] w fun e w' => e = .returned (.bool true) ∧ Below w.heap.size w w' := by
  rw [str_of s]
  obtain ⟨l, hl⟩ : ∃ l, l = s.data.toList := ⟨_, rfl⟩
  rw [← hl]
  have hsz : (str l).size = l.length := str_size l
  have hal := fun W (h : Tab W) => alive_any W h
  have hnew : ∀ w, Tab w → Calls Tryd.prog 8 #[.int .i64 10] w fun e w' => ∃ sb qb c, e = .returned (.pointer (some ⟨sb, 0, none⟩)) ∧ w.heap.size ≤ sb ∧ w.heap.size ≤ qb ∧ Below w.heap.size w w' ∧ Sto w' sb qb 10 c (-1) (B0 10) := fun w h => snew_any 10 w h (by omega) (by omega)
  obtain ⟨k0, d0, x0, e0, s0, hw, hget⟩ := get_case n hn
  have Hget := Lib.hid (And.intro hw hget)
  have Hn := Lib.hid hn
  obtain ⟨S, hS⟩ : ∃ S, S = str l := ⟨_, rfl⟩
  rw [← hS] at hsz ⊢
  have HS := Lib.hid hS
  have ht1 := Lib.hid (ht.alloc (.cells #[.int .i64 k, .int .i64 d, .int .i64 x, .string S] 23))
  have k3 := heap_alloc_new w (.cells #[.int .i64 k, .int .i64 d, .int .i64 x, .string S] 23)
  have c3 := blk_cell k3
  have B1 := Lib.hid (below_al (Below.refl _ w) (.cells #[.int .i64 k, .int .i64 d, .int .i64 x, .string S] 23))
  have K3 := Lib.hid k3
  have htl := ht.lt
  clear ht hS k3 hl hw hget hn
  by_cases h300 : 300 < l.length
  · have e300 : decide (300 < l.length) = true := by simpa using h300
    have e300' : decide ((300 : Int) < (l.length : Int)) = true := by simp; omega
    clear h300
    go_enter Tryd.func3, Tryd.ntmps3
    go_wp2_with fail
    with_reducible refine (hal _ ht1.out).mono ?_
    rintro e w1 ⟨rfl, hb1⟩
    have B2 := Lib.hid (below_tr B1.out hb1)
    clear hb1
    go_wp2_with fail
    go_ret
    exact ⟨rfl, B2.out⟩
  · have e300 : decide (300 < l.length) = false := by simpa using h300
    have e300' : decide ((300 : Int) < (l.length : Int)) = false := by simp; omega
    clear h300
    go_enter Tryd.func3, Tryd.ntmps3
    go_wp2_with fail
    with_reducible refine (hal _ ht1.out).mono ?_
    rintro e w1 ⟨rfl, hb1⟩
    have T1 := Lib.hid (ht1.out.below hb1)
    have K1 := Lib.hid (blk_keep K3.out hb1)
    have B2 := Lib.hid (below_tr B1.out hb1)
    clear hb1 c3 hal
    go_wp2_with fail
    with_reducible refine (hnew _ T1.out).mono ?_
    rintro e w2 ⟨sb, qb, c, rfl, hsb, hqb, hb2, hs2⟩
    have T2 := Lib.hid (T1.out.below hb2)
    have K2 := Lib.hid (blk_keep K1.out hb2)
    have B3 := Lib.hid (below_tr B2.out hb2)
    have hw1 := lt_of_block K1.out
    have hgt1 := T1.out.lt
    have hsz2 := B2.out.size
    have cs := blk_cell hs2.sto
    have fs := blk_free hs2.sto
    have zs' := hs2.lt1
    have zq' := hs2.lt2
    have hsq := hs2.ne
    have cq1 := (hs2.cell 5 (by omega)).1
    have cq2 := (hs2.cell 5 (by omega)).2
    have hqs : qb ≠ sb := fun e => hsq e.symm
    have S3 := Lib.hid ((hs2.setDead 4).setPage 5 nopage (by decide))
    have B4 := Lib.hid (below_set (j := 5) (u := .string (str nopage)) (below_set (j := 1) (u := .int .i64 4) B3.out (show w.heap.size ≤ sb by omega)) (show w.heap.size ≤ qb by omega))
    have K4 : Hid (((w2.setCell ⟨sb, 1, none⟩ (.int .i64 4)).setCell ⟨qb, 5, none⟩ (.string (str nopage))).heap[w.heap.size]? = some (.cells #[.int .i64 k, .int .i64 d, .int .i64 x, .string S] 23 (0, 0))) := Lib.hid ((heap_setCell_other _ _ _ _ (show w.heap.size ≠ qb by omega)).trans ((heap_setCell_other _ _ _ _ (show w.heap.size ≠ sb by omega)).trans K2.out))
    have hgs : gtab ≠ sb := by omega
    have hgq : gtab ≠ qb := by omega
    have T4 := Lib.hid ((T2.out.setCell (g := sb) (j := 1) (u := .int .i64 4) hgs).setCell (g := qb) (j := 5) (u := .string (str nopage)) hgq)
    have hsm : w2.heap.size = ((w2.setCell ⟨sb, 1, none⟩ (.int .i64 4)).setCell ⟨qb, 5, none⟩ (.string (str nopage))).heap.size := by simp
    have Hsm := Lib.hid hsm
    clear hb2 hs2 hnew hsm
    go_wp2_with fail
    with_reducible refine (gnew_any _ sb).mono ?_
    rintro e w4 ⟨gb, mb, rfl, hmb, hgb, hne, hb4, hg4⟩
    have T5 := T4.out.below hb4
    have S5 := S3.out.below hb4
    have K5 := blk_keep K4.out hb4
    have B5 := below_base B4.out B4.out.size hb4
    have hmb2 : w2.heap.size ≤ mb := by simpa using hmb
    have hin : w.heap.size ≤ w.heap.size ∧ w.heap.size < mb ∧ sb < mb ∧ qb < mb ∧ gtab < mb := by omega
    have H5 := Lib.hid (And.intro T5 (And.intro S5 (And.intro hg4 (And.intro K5 (And.intro B5 hin)))))
    clear hmb hmb2 hgb hne hb4 hg4 T5 S5 K5 B5 hin cs fs zs' zq' cq1 cq2
    go_upto_if 36 with fail
    refine wp_cond_false rfl (wp_skip ?_)
    dsimp only [Exit.then]
    apply_assumption
    have hK := H5.out.2.2.2.1
    rw [HS.out] at hK
    exact err_all w4 w gb mb sb qb c w.heap.size n k0 d0 x0 e0 k d x s0 l Hn.out H5.out.1 H5.out.2.1 H5.out.2.2.1 hK H5.out.2.2.2.2.1 H5.out.2.2.2.2.2 Hget.out.2 Hget.out.1 _ _ _ _ _ _ _ _ _ _ _ _ _ _ _ _ _ _ _ _ _ _ _ _ _ _ _ _ _ _ _ _ _ _ _ _ _ _ _ _ _ _ _ _ _ _ _ _ _ _ _ _ _ _ _ _ _ _ _ _ _ _ _ _ _ _ _ _ _ _ _ _ _ _ _ _ _ _ _ _ _ _ _ _ _ _ _ _ _ _ _ _ _ _ _ _ _ _ _ _
end Go.Proofs.YtibbmmkjienekaaDoor.Gr
