/- DirPlays cut into pieces: ways into its code; what the pieces say. (Printed by tools/gen_dp.py.) -/
import Derived.Test.YtlinolgbpnokcaaGreatDoorDirAlive
import Derived.Test.YtlinolgbpnokcaaGreatDoorDirRead
import Derived.Test.YtlinolgbpnokcaaGreatDoorDirUni
import Derived.Deep.Cut
import Derived.Deep.CutRange
import Derived.Deep.CutBlock
import Derived.Deep.DeepCutAuto
import Derived.RegionTactic
import Derived.Deep.RegionLaw
import Derived.Deep.RegionLawGrows
import Derived.Deep.RegionHeld
namespace Go.Proofs.YtlinolgbpnokcaaGreatDoor.Dr
open Go.RowKit Go.Proofs.YtlinolgbpnokcaaGreatDoor.Mem Go.Proofs.YtlinolgbpnokcaaGreatDoor.Pg Go.Proofs.YtlinolgbpnokcaaGreatDoor.Bk
set_option linter.unusedSimpArgs false
set_option linter.unusedVariables false
/-- Ways into a function's code. -/
inductive St where | l | r | b | t | e
def sub : Code → List St → Code
  | c, [] => c
  | .seq a _, .l :: p => sub a p
  | .seq _ c, .r :: p => sub c p
  | .loop c, .b :: p => sub c p
  | .block _ c, .b :: p => sub c p
  | .cond _ a _, .t :: p => sub a p
  | .cond _ _ c, .e :: p => sub c p
  | _, _ => .skip
noncomputable def cReg4 : Code := sub (Tryz.f3.body.getD .skip) [.r, .r, .r, .l]
noncomputable def cReg5 : Code := sub (Tryz.f3.body.getD .skip) [.r, .r, .r, .r, .l]
noncomputable def cReg7 : Code := sub (Tryz.f3.body.getD .skip) [.r, .r, .r, .r, .r, .l]
noncomputable def cFrom9 : Code := sub (Tryz.f3.body.getD .skip) [.r, .r, .r, .r, .r, .r]
noncomputable def cSw : Code := sub (Tryz.f3.body.getD .skip) [.r, .r, .r, .r, .r, .r, .r, .l, .r, .b, .b, .r, .r, .l, .b, .r, .r, .r, .r, .r, .r, .r, .l, .r]
noncomputable def cDbl : Code := sub (Tryz.f3.body.getD .skip) [.r, .r, .r, .r, .r, .r, .r, .l, .r, .b, .b, .r, .r, .l, .b, .r, .r, .r, .r, .r, .r, .r, .l, .r, .b, .r, .t]
noncomputable def cHlv : Code := sub (Tryz.f3.body.getD .skip) [.r, .r, .r, .r, .r, .r, .r, .l, .r, .b, .b, .r, .r, .l, .b, .r, .r, .r, .r, .r, .r, .r, .l, .r, .b, .r, .e, .r, .t]
noncomputable def cSet : Code := sub (Tryz.f3.body.getD .skip) [.r, .r, .r, .r, .r, .r, .r, .l, .r, .b, .b, .r, .r, .l, .b, .r, .r, .r, .r, .r, .r, .r, .l, .r, .b, .r, .e, .r, .e]
noncomputable def cT51 : Code := sub (Tryz.f3.body.getD .skip) [.r, .r, .r, .r, .r, .r, .r, .l, .r, .b, .b, .r, .r, .l, .b, .r, .r, .r, .r, .r, .r, .r, .r, .r, .r]
noncomputable def cSetLoop : Code := sub (Tryz.f3.body.getD .skip) [.r, .r, .r, .r, .r, .r, .r, .l, .r, .b, .b, .r, .r, .l, .b, .r, .r, .r, .r, .r, .r, .r, .l, .r, .b, .r, .e, .r, .e, .r, .r, .r, .t]
abbrev opo (a b c d : Int) : Obj := .cells #[.int .i64 a, .int .i64 b, .int .i64 c, .int .i64 d] 43 (0, 0)
/-- The have of a round: the entries, or nil. -/
def Have (w : World) (hv : Value) (good : Bool) (xs : List Int) : Prop := ∃ A c, hv = .slice A xs.length c ∧ xs.length ≤ c ∧ Ints w A xs.length xs ∧ (good = false → hv = .slice none 0 0)
/-- A round's blocks: the page, the thing that is done, the two answers. -/
structure Rb (w : World) (B0 pb ob qb wb : Nat) (kk D X : Int) (L : List UInt8) (kd bt dp nn : Int) : Prop where
  k9 : w.heap[pb]? = some (pgo kk D X (str L))
  k14 : w.heap[ob]? = some (opo kd bt dp nn)
  k17 : w.heap[qb]? = some (pgo 0 0 0 ⟨#[]⟩)
  k18 : w.heap[wb]? = some (pgo 0 0 0 ⟨#[]⟩)
  lt : pb < B0 ∧ B0 ≤ ob ∧ ob < qb ∧ qb < wb ∧ wb < w.heap.size
/-- Behind what was done: both answers are alike, both errors are. -/
structure Dn (w w' : World) (B0 ob qb wb : Nat) (kd bt dp nn : Int) (k D X : Int) (L : List UInt8) : Prop where
  k14 : w'.heap[ob]? = some (opo kd bt dp nn)
  k17 : w'.heap[qb]? = some (pgo k D X (str L))
  k18 : w'.heap[wb]? = some (pgo k D X (str L))
  bel : Below B0 w w'
theorem cell_set4 {w : World} {g b : Nat} (h : b ≠ g) {a1 a2 a3 a4 : Value} (o : Nat) : (set4 w g a1 a2 a3 a4).cell? ⟨b, o, none⟩ = w.cell? ⟨b, o, none⟩ := by
  unfold World.cell?
  rw [set4_other w h]
theorem wp_world {P : Program} {c : Code} {Q : Exit → Act → World → Prop} {f : Act} {a b : World} (h : b = a) (k : Code.wp P c Q f b) : Code.wp P c Q f a := h ▸ k
theorem ints_news {w : World} {b off n : Nat} {xs : List Int} (h : Ints w (some ⟨b, off, none⟩) n xs) : ∀ j u, (ints xs)[j]? = some u → w.cell? ((⟨b, off, none⟩ : Addr).add j) = some u := by
  intro j u hu
  have hj : j < xs.length := by have := (List.getElem?_eq_some_iff.1 hu).1; simpa [ints] using this
  obtain ⟨b', off', hA, _, hc⟩ := h.2.2 (by have := h.1; omega)
  injection hA with hA
  injection hA with h1 h2 _
  subst h1 h2
  rw [Go.WideShapes.add_plain, hc j (by have := h.1; omega), ← hu]
  simp [ints, List.getElem?_eq_getElem hj, List.getD_eq_getElem?_getD]
theorem ints_one (xs : List Int) : ∀ u ∈ ints xs, u.oneCell' = true := by
  intro u hu
  obtain ⟨x, _, rfl⟩ := List.mem_map.1 hu
  rfl
theorem dir_16 {k d : Int} {l : List UInt8} {n : Nat} (h : IsDir k d l n) (h4 : d ≤ 4) : n ≤ 16 := by
  have h1 := h.lo
  have h3 := h.size
  obtain ⟨m, rfl⟩ := Int.eq_ofNat_of_zero_le h1
  have : m ≤ 4 := by omega
  match m, this with
  | 0, _ | 1, _ | 2, _ | 3, _ | 4, _ => simp at h3; omega
theorem Ints.set4' {w : World} {b off n g : Nat} {xs : List Int} (h : Ints w (some ⟨b, off, none⟩) n xs) (hb : b ≠ g) {a1 a2 a3 a4 : Value} : Ints (set4 w g a1 a2 a3 a4) (some ⟨b, off, none⟩) n xs :=
  ⟨h.1, h.2.1, fun h0 => by
    obtain ⟨b', off', hA, hl, hc⟩ := h.2.2 h0
    injection hA with hA
    injection hA with h1 h2 _
    subst h1 h2
    refine ⟨b, off, rfl, by rw [set4_size]; exact hl, fun j hj => ?_⟩
    rw [cell_set4 hb]
    exact hc j hj⟩
theorem Ints.take {w : World} {A : Option Addr} {n h : Nat} {xs : List Int} (k : Ints w A n xs) (hh : h ≤ n) : Ints w A h (xs.take h) :=
  ⟨by rw [List.length_take, k.1]; omega, by have := k.2.1; omega, fun h0 => by
    obtain ⟨b, off, hA, hl, hc⟩ := k.2.2 (by omega)
    refine ⟨b, off, hA, hl, fun j hj => ?_⟩
    rw [hc j (by omega), List.getD_eq_getElem?_getD, List.getD_eq_getElem?_getD, List.getElem?_take_of_lt hj]⟩
theorem Ints.drop {w : World} {b off n h : Nat} {xs : List Int} (k : Ints w (some ⟨b, off, none⟩) n xs) (hh : h < n) : Ints w (some ⟨b, off + h, none⟩) (n - h) (xs.drop h) :=
  ⟨by rw [List.length_drop, k.1], by have := k.2.1; omega, fun h0 => by
    obtain ⟨b', off', hA, hl, hc⟩ := k.2.2 (by omega)
    injection hA with hA
    injection hA with h1 h2 _
    subst h1 h2
    refine ⟨b, off + h, rfl, hl, fun j hj => ?_⟩
    rw [Nat.add_assoc, hc (h + j) (by omega), List.getD_eq_getElem?_getD, List.getD_eq_getElem?_getD, List.getElem?_drop]⟩
theorem zpg : (⟨#[]⟩ : ByteArray) = str [] := rfl
end Go.Proofs.YtlinolgbpnokcaaGreatDoor.Dr
