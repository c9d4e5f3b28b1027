/- Lemmas of the claim, in their order:
- A part of the trie is another one. No program in sight.
- The pages of a bucket: a cell more, a key less. No program in sight.
- The contract of dir's of, at every page.
- The contract of space.New.
- The library's table of blanks, off the row's condition.
-/
import Derived.Test.YtijhamllnnilbaaGreatDoorU05
import Derived.Test.YtijhamllnnilbaaGreatDoorU08
import Derived.Test.YtijhamllnnilbaaGreatDoorU02
import Derived.Test.YtijhamllnnilbaaGreatDoorChecked
import Derived.ProofKit
import Derived.OpenShut
import Derived.Deep.Slices
import Derived.Deep.Fields
import Derived.Lib.SmallJoins
import Derived.Lib.LaidU8
set_option linter.unusedVariables false
set_option linter.unusedSimpArgs false
namespace Go.Proofs.YtijhamllnnilbaaGreatDoor.Ha
open Go.RowKit Go.Proofs.YtijhamllnnilbaaGreatDoor.Mem Go.Proofs.YtijhamllnnilbaaGreatDoor.Pg Go.Proofs.YtijhamllnnilbaaGreatDoor.Gr
set_option linter.unusedVariables false
set_option linter.unusedSimpArgs false
namespace Tri
/-- What stands k bits deep. -/
def sub : Tri → Nat → Nat → Tri
  | t, _, 0 => t
  | leaf b, _, _ + 1 => leaf b
  | node z o, h, k + 1 => if h % 2 = 0 then z.sub (h / 2) k else o.sub (h / 2) k
/-- Another one stands there. -/
def upd : Tri → Nat → Nat → Tri → Tri
  | _, _, 0, s => s
  | leaf b, _, _ + 1, _ => leaf b
  | node z o, h, k + 1, s => if h % 2 = 0 then node (z.upd (h / 2) k s) o else node z (o.upd (h / 2) k s)
theorem sub_zero (t : Tri) (h : Nat) : t.sub h 0 = t := by cases t <;> rfl
end Tri
end Go.Proofs.YtijhamllnnilbaaGreatDoor.Ha
namespace Go.Proofs.YtijhamllnnilbaaGreatDoor.Ha
open Go.RowKit Go.Proofs.YtijhamllnnilbaaGreatDoor.Mem Go.Proofs.YtijhamllnnilbaaGreatDoor.Pg Go.Proofs.YtijhamllnnilbaaGreatDoor.Gr
set_option linter.unusedVariables false
set_option linter.unusedSimpArgs false

/-- All cells of pages. -/
def cellsP (ps : List (Nat × List Cel)) : List Cel := ps.flatMap (·.2)
theorem Lf.cells_eq (b : Lf) : b.cells = cellsP b.pgs := rfl
theorem cellsP_append (a b : List (Nat × List Cel)) : cellsP (a ++ b) = cellsP a ++ cellsP b := by simp [cellsP]
theorem cellsP_cons (a : Nat × List Cel) (b : List (Nat × List Cel)) : cellsP (a :: b) = a.2 ++ cellsP b := by simp [cellsP]
/-- Pages without a key. -/
def cutP (k : List UInt8) (ps : List (Nat × List Cel)) : List (Nat × List Cel) := ps.map fun p => (p.1, cutK k p.2)
end Go.Proofs.YtijhamllnnilbaaGreatDoor.Ha
namespace Go.Proofs.YtijhamllnnilbaaGreatDoor.Dr
open Go.RowKit Go.Proofs.YtijhamllnnilbaaGreatDoor.Mem Go.Proofs.YtijhamllnnilbaaGreatDoor.Pg

theorem wrap_small (z : Int) (h : 0 ≤ z ∧ z ≤ 1000) : wrap64 z = z ∧ IntKind.i64.wrap z = z := ⟨IntWalk.wrap64_in _ (by omega), IntWalk.i64_in _ (by omega)⟩
theorem pow_small (m : Nat) (h : m ≤ 5) : (2 : Int) ^ ((m : Int).toNat) = ((2 ^ m : Nat) : Int) ∧ 1 ≤ 2 ^ m ∧ 2 ^ m ≤ 32 := by
  rw [Int.toNat_natCast]
  match m, h with
  | 0, _ | 1, _ | 2, _ | 3, _ | 4, _ | 5, _ => simp
theorem of_any (k d x : Int) (l : List UInt8) (w : World) :
    Calls Tryz.prog 187 #[.agg #[.int .i64 k, .int .i64 d, .int .i64 x, .string (str l)]] w (OfPost w k d l) := by
  by_cases h : k = 1 ∧ 0 ≤ d ∧ d ≤ 5 ∧ l.length = 240
  · obtain ⟨rfl, h0, h5, hl240⟩ := h
    obtain ⟨m, rfl⟩ := Int.eq_ofNat_of_zero_le h0
    obtain ⟨e, h1, h2⟩ := pow_small m (by omega)
    refine of_body m x l (2 ^ m) w h0 h5 hl240 (by rw [Int.toNat_natCast]) h1 h2 ?_ ?_ ?_
    · rw [e]; exact (wrap_small _ (by omega)).1
    · rw [e]
      generalize 2 ^ m = q at *
      rw [(wrap_small _ (by omega)).1]
      omega
    · rw [e]
      generalize 2 ^ m = q at *
      rw [(wrap_small _ (by omega)).2]
      omega
  · exact of_head k d x l w (by omega)
end Go.Proofs.YtijhamllnnilbaaGreatDoor.Dr
namespace Go.Proofs.YtijhamllnnilbaaGreatDoor.Sp
open Go.RowKit Go.Proofs.YtijhamllnnilbaaGreatDoor.Mem Go.Proofs.YtijhamllnnilbaaGreatDoor.Pg

/-- A new map's bytes behind so many rounds. -/
def newL : Nat → List UInt8
  | 0 => zs 240
  | n + 1 => if n < 2 then ((newL n).set n 2).set n 1 else (newL n).set n 2
theorem newL_len (n : Nat) : (newL n).length = 240 := by
  induction n with
  | zero => exact List.length_replicate
  | succ n ih => rw [newL]; split <;> simp [ih]

set_option maxRecDepth 100000 in
theorem new_ok (n : Nat) (w : World) (h8 : 8 ≤ n) (h64 : n ≤ 64) :
    Calls Tryz.prog 82 #[.int .i64 n] w fun e w' =>
      e = .returned (.tuple #[.agg #[.int .i64 2, .int .i64 0, .int .i64 0, .string (str (newL n))], .bool true]) ∧ Below w.heap.size w w' := by
  have d8 : decide ((n : Int) < 8) = false := by simp; omega
  have d64 : decide ((64 : Int) < n) = false := by simp; omega
  have hem := fun w => empty_any 2 0 w
  have hs1 : ∀ i, i < n → ∀ w, Calls Tryz.prog 159 #[.agg #[.int .i64 2, .int .i64 0, .int .i64 0, .string (str (newL i))], .int .i64 i, .int .u8 2] w fun e w' => e = .returned (.agg #[.int .i64 2, .int .i64 0, .int .i64 0, .string (str ((newL i).set i 2))]) ∧ Below w.heap.size w w' :=
    fun i hi w => set_any 2 0 0 (newL i) i 2 w (by rw [newL_len]; omega) (by rw [newL_len]; omega)
  have hs2 : ∀ i, i < 2 → ∀ w, Calls Tryz.prog 159 #[.agg #[.int .i64 2, .int .i64 0, .int .i64 0, .string (str ((newL i).set i 2))], .int .i64 i, .int .u8 1] w fun e w' => e = .returned (.agg #[.int .i64 2, .int .i64 0, .int .i64 0, .string (str (newL (i + 1)))]) ∧ Below w.heap.size w w' :=
    fun i hi w => (set_any 2 0 0 ((newL i).set i 2) i 1 w (by rw [List.length_set, newL_len]; omega) (by rw [List.length_set, newL_len]; omega)).mono (fun e w' h => by rw [newL, if_pos hi]; exact h)
  have hs3 : ∀ i, ¬ i < 2 → str ((newL i).set i 2) = str (newL (i + 1)) := fun i hi => by rw [newL, if_neg hi]
  have h0 : str (zs 240) = str (newL 0) := rfl
  rw [h0] at hem
  generalize hF : (fun i => str (newL i)) = F
  generalize hG : (fun i => str ((newL i).set i 2)) = G
  have hF' : ∀ i, str (newL i) = F i := fun i => by rw [← hF]
  have hG' : ∀ i, str ((newL i).set i 2) = G i := fun i => by rw [← hG]
  simp only [hF', hG'] at hem hs1 hs2 hs3 ⊢
  clear hF hG hF' hG' h0
  have Hs3 := Lib.hid hs3
  clear hs3
  go_enter Tryz.func82, Tryz.ntmps82
  go_wp2_with fail
  refine (hem _).mono ?_
  rintro e w1 ⟨rfl, hb1⟩
  have blk1 := blk_below hb1
  have hc1 := blk_cell blk1
  have hf1 := blk_free blk1
  have hz1 := lt_of_block blk1
  have hbw1 := below_tr (below_al (Below.refl _ w) _) hb1
  clear hb1
  go_wp2_with fail
  go_loopw [15] (fun i wr => ∃ j : Nat, i = .int .i64 j ∧ j ≤ n ∧ Below w.heap.size w wr ∧ wr.heap[w.heap.size]? = some (.cells #[.int .i64 0, .int .i64 0, .int .i64 0, .string ⟨#[]⟩] 113 (0, 0)) ∧ wr.heap[w1.heap.size]? = some (.cells #[.int .i64 2, .int .i64 0, .int .i64 0, .string (F j)] 113 (0, 0))) (fun i _ => n - (intOf i).toNat)
  case atStart => exact ⟨0, rfl, Nat.zero_le _, below_al hbw1 _, (heap_alloc_old _ _ hz1).trans blk1, heap_alloc_new _ _⟩
  case round =>
    obtain ⟨j, rfl, hj, hbel, hres, hpag⟩ := hrel
    have hcr := blk_cell hres
    have hfr := blk_free hres
    have hzr := lt_of_block hres
    have hcp := blk_cell hpag
    have hfp := blk_free hpag
    have hzp := lt_of_block hpag
    by_cases hlt : j < n
    · have hs1j := hs1 j hlt
      go_wp2_with fail
      refine (hs1j _).mono ?_
      rintro e w2 ⟨rfl, hb2⟩
      have hpag2 := blk_keep hpag hb2
      have hres2 := blk_keep hres hb2
      have hbel2 := below_tr hbel hb2
      clear hcp hfp hzp hcr hfr hzr hpag hres hbel hs1j hb2
      have hcp2 := blk_cell hpag2
      have hfp2 := blk_free hpag2
      have hzp2 := lt_of_block hpag2
      by_cases h2 : j < 2
      · have d2 : decide ((j : Int) < 2) = true := by simp; omega
        have hs2j := hs2 j h2
        go_wp2_with fail
        have hst : (set4 w2 w1.heap.size (.int .i64 2) (.int .i64 0) (.int .i64 0) (.string (G j))).heap[w1.heap.size]? = _ := set4_same hpag2 _ _ _ _
        have hsr : (set4 w2 w1.heap.size (.int .i64 2) (.int .i64 0) (.int .i64 0) (.string (G j))).heap[w.heap.size]? = _ := (set4_other w2 (Nat.ne_of_lt hz1) _ _ _ _).trans hres2
        have hsb := below_set4 hbel2 (Nat.le_of_lt hz1) (.int .i64 2) (.int .i64 0) (.int .i64 0) (.string (G j))
        refine (hs2j _).mono ?_
        rintro e w3 ⟨rfl, hb3⟩
        have hpag3 := blk_keep hst hb3
        have hres3 := blk_keep hsr hb3
        have hbel3 := below_tr hsb hb3
        clear hcp2 hfp2 hzp2 hpag2 hres2 hbel2 hs2j hb3 hst hsr hsb
        have hcp3 := blk_cell hpag3
        have hfp3 := blk_free hpag3
        have hzp3 := lt_of_block hpag3
        go_wp2
        go_roundw
        case rel => exact ⟨j + 1, by go_num, by omega, below_set4 hbel3 (Nat.le_of_lt hz1) _ _ _ _, (set4_other w3 (Nat.ne_of_lt hz1) _ _ _ _).trans hres3, set4_same hpag3 _ _ _ _⟩
        case measure => simp [intOf]; omega
      · have d2 : decide ((j : Int) < 2) = false := by simp; omega
        go_wp2
        go_roundw
        case rel => exact ⟨j + 1, by go_num, by omega, below_set4 hbel2 (Nat.le_of_lt hz1) _ _ _ _, (set4_other w2 (Nat.ne_of_lt hz1) _ _ _ _).trans hres2, by rw [← Hs3.out j h2]; exact set4_same hpag2 _ _ _ _⟩
        case measure => simp [intOf]; omega
    · obtain rfl : j = n := by omega
      go_wp2
      refine bodyPost_ret (v := .tuple #[.agg #[.int .i64 2, .int .i64 0, .int .i64 0, .string (F j)], .bool true]) (by simp [results, Tryz.results82, go_sem, hcr]) rfl ⟨rfl, below_set4 hbel (Nat.le_refl _) _ _ _ _⟩
end Go.Proofs.YtijhamllnnilbaaGreatDoor.Sp
namespace Go.Proofs.YtijhamllnnilbaaGreatDoor.Gr
open Go.RowKit Go.Proofs.YtijhamllnnilbaaGreatDoor.Mem Go.Proofs.YtijhamllnnilbaaGreatDoor.Pg Go.ChangeShapes Go.WideShapes Go.Deep Go.Joins
theorem tab_of_reads {W : World} (h : Lib.VarReads Tryz.prog W "strings.asciiSpace" (Lib.tabData .u8 Lib.asciiSpaceTab)) : Tab W := by
  obtain ⟨g', t', cs, fuel, p, hg', ht', hvar, hd⟩ := h
  obtain rfl := Option.some.inj ((show Tryz.prog.globalNamed "strings.asciiSpace" = some 1 by kernel_rfl).symm.trans hg')
  obtain rfl := Option.some.inj ((show (Tryz.prog.globals[1]?).map (·.type) = some 326 by kernel_rfl).symm.trans ht')
  unfold Tab Lib.TabIs
  rw [hvar, ← Lib.cells_of_tab (n := 256) Tryz.underlying326 Tryz.underlying5 (by kernel_rfl) (by kernel_rfl) hd]
end Go.Proofs.YtijhamllnnilbaaGreatDoor.Gr
