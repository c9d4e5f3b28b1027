/- The store of chapter 18's laws, and how it reads; what a group over it is; package group's New, Taken, Bytes. -/
import Derived.Test.YtibbmmkjienekaaDoorGrMap
import Derived.Deep.RegionHeld
import Derived.RegionTactic
import Derived.Carry
namespace Go.Proofs.YtibbmmkjienekaaDoor.Gr
open Go.RowKit Go.Proofs.YtibbmmkjienekaaDoor.Mem Go.Proofs.YtibbmmkjienekaaDoor.Pg Go.Proofs.YtibbmmkjienekaaDoor.Kp
set_option linter.unusedSimpArgs false
set_option linter.unusedVariables false

/-- A store: block sb; its pages' strings in block qb. -/
structure Sto (w : World) (sb qb n c : Nat) (dead : Int) (B : Nat → List UInt8) : Prop where
  sto : w.heap[sb]? = some (.cells #[.slice (some ⟨qb, 0, none⟩) n c, .int .i64 dead] 29 (0, 0))
  pgs : ∃ cs, w.heap[qb]? = some (.cells cs 9 (0, 0)) ∧ ∀ i, i < n → cs[i]? = some (.string (str (B i)))
  le : n ≤ 64
  ne : sb ≠ qb
  sm : ∀ i, i < n → (B i).length ≤ 1000
/-- What the store tells of a page. -/
def rd (n : Nat) (dead : Int) (B : Nat → List UInt8) (i : Int) : List UInt8 × Int := if i = dead then ([], 10) else if 0 ≤ i ∧ i < n then (B i.toNat, 0) else ([], 12)
section
variable {w w' : World} {sb qb n c : Nat} {dead : Int} {B : Nat → List UInt8}
theorem Sto.block (h : Sto w sb qb n c dead B) (e1 : w'.heap[sb]? = w.heap[sb]?) (e2 : w'.heap[qb]? = w.heap[qb]?) : Sto w' sb qb n c dead B := by
  obtain ⟨cs, h1, h2⟩ := h.pgs
  exact ⟨e1.trans h.sto, ⟨cs, e2.trans h1, h2⟩, h.le, h.ne, h.sm⟩
theorem Sto.rd_len (h : Sto w sb qb n c dead B) (i : Int) : (rd n dead B i).1.length ≤ 1000 := by
  unfold rd
  split
  · simp
  · split
    · exact h.sm _ (by omega)
    · simp
theorem Sto.lt1 (h : Sto w sb qb n c dead B) : sb < w.heap.size := lt_of_block h.sto
theorem Sto.lt2 (h : Sto w sb qb n c dead B) : qb < w.heap.size := by
  obtain ⟨cs, h1, _⟩ := h.pgs
  exact lt_of_block h1
theorem Sto.below (h : Sto w sb qb n c dead B) (k : Below w.heap.size w w') : Sto w' sb qb n c dead B := h.block (k.block _ h.lt1) (k.block _ h.lt2)
theorem Sto.keep {S : Nat → Prop} (h : Sto w sb qb n c dead B) (k : Keep S w w') (h1 : ¬ S sb) (h2 : ¬ S qb) : Sto w' sb qb n c dead B := h.block (k.block _ h.lt1 h1) (k.block _ h.lt2 h2)
end
set_option maxRecDepth 100000 in
theorem read_any (w : World) (sb qb n c : Nat) (dead : Int) (B : Nat → List UInt8) (i : Int) (h : Sto w sb qb n c dead B) :
    Calls Tryd.prog 10 #[.pointer (some ⟨sb, 0, none⟩), .int .i64 i] w fun e w' => e = .returned (.tuple #[.string (str (rd n dead B i).1), .int .i64 (rd n dead B i).2]) ∧ w' = w := by
  have hs := h.sto
  have h64 := h.le
  obtain ⟨cs, hq, hcs⟩ := h.pgs
  have c1 := blk_cell hs
  have z1 := lt_of_block hs
  have z2 := lt_of_block hq
  by_cases hd : i = dead
  · have e : rd n dead B i = ([], 10) := if_pos hd
    rw [e]
    have d1 : (i == dead) = true := by simpa using hd
    have d1' : decide (i = dead) = true := by simpa using hd
    clear hd hs hq hcs h e
    go_enter Tryd.func10, Tryd.ntmps10
    go_wp2_with fail
    go_ret2
    exact ⟨rfl, rfl⟩
  · have d1 : (i == dead) = false := by simpa using hd
    have d1' : decide (i = dead) = false := by simpa using hd
    by_cases h0 : i < 0
    · have e : rd n dead B i = ([], 12) := by unfold rd; rw [if_neg hd, if_neg (by omega)]
      rw [e]
      have d2 : decide (i < 0) = true := by simpa using h0
      clear hd hs hq hcs h e h0
      go_enter Tryd.func10, Tryd.ntmps10
      go_wp2_with fail
      go_ret2
      exact ⟨rfl, rfl⟩
    · have d2 : decide (i < 0) = false := by simpa using h0
      obtain ⟨j, rfl⟩ := Int.eq_ofNat_of_zero_le (show 0 ≤ i by omega)
      by_cases hn : j < n
      · have e : rd n dead B j = (B j, 0) := by unfold rd; rw [if_neg hd, if_pos ⟨by omega, by omega⟩, Int.toNat_natCast]
        rw [e]
        have c2 := (blk_cell hq j).trans (hcs j hn)
        have d3 : decide ((n : Int) ≤ (j : Int)) = false := by simp; omega
        have d3' : decide (n ≤ j) = false := by simp; omega
        obtain ⟨T, hT⟩ : ∃ T, T = str (B j) := ⟨_, rfl⟩
        simp only
        rw [← hT] at c2 ⊢
        clear hd hs hq hcs h e h0 hT
        go_enter Tryd.func10, Tryd.ntmps10
        go_wp2_with fail
        go_ret2
        exact ⟨rfl, rfl⟩
      · have e : rd n dead B j = ([], 12) := by unfold rd; rw [if_neg hd, if_neg (by omega)]
        rw [e]
        have d3 : decide ((n : Int) ≤ (j : Int)) = true := by simp; omega
        have d3' : decide (n ≤ j) = true := by simp; omega
        clear hd hs hq hcs h e h0
        go_enter Tryd.func10, Tryd.ntmps10
        go_wp2_with fail
        go_ret2
        exact ⟨rfl, rfl⟩

/-- How a group reads. -/
abbrev rdv (sb : Nat) : Value := .func (.func 10) #[.pointer (some ⟨sb, 0, none⟩)] #[]
/-- A group: block gb; its map in block mb, that holds M; so many pages taken. -/
structure Grp (w : World) (gb mb sb : Nat) (M : Int → Option (List UInt8)) (tk : Int) : Prop where
  grp : w.heap[gb]? = some (.cells #[rdv sb, .map (some mb), .int .i64 tk] 66 (0, 0))
  map : MapIs w mb M
section
variable {w w' : World} {gb mb sb : Nat} {M : Int → Option (List UInt8)} {tk : Int}
theorem Grp.lt1 (h : Grp w gb mb sb M tk) : gb < w.heap.size := lt_of_block h.grp
theorem Grp.lt2 (h : Grp w gb mb sb M tk) : mb < w.heap.size := h.map.lt
theorem Grp.block (h : Grp w gb mb sb M tk) (e1 : w'.heap[gb]? = w.heap[gb]?) (e2 : w'.heap[mb]? = w.heap[mb]?) : Grp w' gb mb sb M tk := ⟨e1.trans h.grp, h.map.block e2⟩
theorem Grp.below (h : Grp w gb mb sb M tk) (k : Below w.heap.size w w') : Grp w' gb mb sb M tk := h.block (k.block _ h.lt1) (k.block _ h.lt2)
theorem Grp.keep {S : Nat → Prop} (h : Grp w gb mb sb M tk) (k : Keep S w w') (h1 : ¬ S gb) (h2 : ¬ S mb) : Grp w' gb mb sb M tk := h.block (k.block _ h.lt1 h1) (k.block _ h.lt2 h2)
end
theorem func_not_nil (f : Fn) (a b : Array Value) (w : World) : (binOp BinOp.eql 63 (.func f a b) .nilFunc).run Tryd.prog w = .ok (.bool false) w := by kernel_rfl

set_option maxRecDepth 100000 in
theorem gnew_any (w : World) (sb : Nat) :
    Calls Tryd.prog 9 #[rdv sb] w fun e w' => ∃ gb mb, e = .returned (.pointer (some ⟨gb, 0, none⟩)) ∧ w.heap.size ≤ mb ∧ w.heap.size ≤ gb ∧ gb ≠ mb ∧ Below w.heap.size w w' ∧ Grp w' gb mb sb (fun _ => none) 0 := by
  have hnn := func_not_nil (.func 10) #[.pointer (some ⟨sb, 0, none⟩)] #[]
  have hmk : ∀ W : World, (Instr.makeMap 64 none).run Tryd.prog W = .ok (.map (some W.heap.size)) (W.alloc (.map #[] 0)) := fun W => run_makeMap _ W
  go_enter Tryd.func9, Tryd.ntmps9
  go_wp2_with fail
  go_ret
  refine ⟨w.heap.size + 1, w.heap.size, rfl, Nat.le_refl _, by omega, by omega, below_al (below_al (Below.refl _ w) _) _, ?_, ?_⟩
  · have := heap_alloc_new (w.alloc (.map #[] 0)) (.cells #[rdv sb, .map (some w.heap.size), .int .i64 0] 66)
    simpa using this
  · exact (MapIs.made w).block (heap_alloc_old _ _ (by simp))
end Go.Proofs.YtibbmmkjienekaaDoor.Gr
