/- A slice of records among the arguments: what its cells hold. -/
import Derived.Test.YtlhmjmldndoekaaUndoParts
import Derived.Test.YtlhmjmldndoekaaChecked
import Derived.ProofKit
import Derived.OpenShut
import Derived.Deep.Slices
import Derived.Deep.Fields
import Derived.Lib.SmallJoins
namespace Go.Proofs.Ytlhmjmldndoekaa.Undo
open Go.RowKit Go.Proofs.Ytlhmjmldndoekaa.Mem Go.ChangeShapes Go.WideShapes Go.Deep Go.Joins

theorem one_of_take {cs : List Value} {o : Nat} {v : Value} (h : (cs.drop o).take 1 = [v]) : cs[o]? = some v := by
  have h1 : ((cs.drop o).take 1)[0]? = some v := by rw [h]; rfl
  simpa [List.getElem?_take] using h1
theorem one_of_take2 {cs : List Value} {o n j : Nat} {v : Value} (h : ((((cs.drop o).take n).drop j).take 1) = [v]) (hj : j < n) : cs[o + j]? = some v := by
  have h1 := one_of_take h
  rw [List.getElem?_take, if_pos hj] at h1
  simpa using h1

theorem c_int : Try.prog.cellsOf 3 = 1 := by kernel_rfl
theorem c_string : Try.prog.cellsOf 9 = 1 := by kernel_rfl
theorem c_bool : Try.prog.cellsOf 4 = 1 := by kernel_rfl
theorem c_cell : Try.prog.cellsOf 50 = 4 := by kernel_rfl
theorem c_ints : Try.prog.cellsOf 27 = 1 := by kernel_rfl
theorem c_patches : Try.prog.cellsOf 51 = 1 := by kernel_rfl
theorem c_txs : Try.prog.cellsOf 52 = 1 := by kernel_rfl
theorem c_dirty : Try.prog.cellsOf 53 = 1 := by kernel_rfl
theorem c_rec : Try.prog.cellsOf 55 = 14 := by kernel_rfl

section
variable {H : Type} {enc : TypeId × Value → H} {w : World} {base : Nat} {spare : Nat → Bool} {held : Bool} {fuel : Nat} {x : DataW H × List MemPlace}
theorem rec_cells {cs : List Value} (h : DataW.trod enc Try.prog w base spare held fuel 55 cs = some x) :
    ∃ k p n : Int, ∃ v, IsRec v k p n ∧ ∀ j, j < 14 → cs[j]? = v[j]? := by
  obtain ⟨xs, n, _, _, hlen, hxs, hf⟩ := DataW.trod_struct Try.underlying55 h
  have get : ∀ (i : Nat), i < 11 → ∃ y, xs[i]? = some y := fun i hi => ⟨xs[i]'(by rw [hxs]; exact hi), List.getElem?_eq_getElem _⟩
  obtain ⟨y0, e0⟩ := get 0 (by omega)
  obtain ⟨y1, e1⟩ := get 1 (by omega)
  obtain ⟨y2, e2⟩ := get 2 (by omega)
  obtain ⟨y3, e3⟩ := get 3 (by omega)
  obtain ⟨y4, e4⟩ := get 4 (by omega)
  obtain ⟨y5, e5⟩ := get 5 (by omega)
  obtain ⟨y6, e6⟩ := get 6 (by omega)
  obtain ⟨y7, e7⟩ := get 7 (by omega)
  obtain ⟨y8, e8⟩ := get 8 (by omega)
  obtain ⟨y9, e9⟩ := get 9 (by omega)
  obtain ⟨y10, e10⟩ := get 10 (by omega)
  have f0 : DataW.trod enc Try.prog w base spare held n 3 ((cs.drop 0).take (Try.prog.cellsOf 3)) = some y0 := (hf 0 _ rfl).trans e0
  have f1 : DataW.trod enc Try.prog w base spare held n 3 ((cs.drop 1).take (Try.prog.cellsOf 3)) = some y1 := (hf 1 _ rfl).trans e1
  have f2 : DataW.trod enc Try.prog w base spare held n 3 ((cs.drop 2).take (Try.prog.cellsOf 3)) = some y2 := (hf 2 _ rfl).trans e2
  have f3 : DataW.trod enc Try.prog w base spare held n 3 ((cs.drop 3).take (Try.prog.cellsOf 3)) = some y3 := (hf 3 _ rfl).trans e3
  have f4 : DataW.trod enc Try.prog w base spare held n 9 ((cs.drop 4).take (Try.prog.cellsOf 9)) = some y4 := (hf 4 _ rfl).trans e4
  have f5 : DataW.trod enc Try.prog w base spare held n 4 ((cs.drop 5).take (Try.prog.cellsOf 4)) = some y5 := (hf 5 _ rfl).trans e5
  have f6 : DataW.trod enc Try.prog w base spare held n 50 ((cs.drop 6).take (Try.prog.cellsOf 50)) = some y6 := (hf 6 _ rfl).trans e6
  have f7 : DataW.trod enc Try.prog w base spare held n 27 ((cs.drop 10).take (Try.prog.cellsOf 27)) = some y7 := (hf 7 _ rfl).trans e7
  have f8 : DataW.trod enc Try.prog w base spare held n 51 ((cs.drop 11).take (Try.prog.cellsOf 51)) = some y8 := (hf 8 _ rfl).trans e8
  have f9 : DataW.trod enc Try.prog w base spare held n 52 ((cs.drop 12).take (Try.prog.cellsOf 52)) = some y9 := (hf 9 _ rfl).trans e9
  have f10 : DataW.trod enc Try.prog w base spare held n 53 ((cs.drop 13).take (Try.prog.cellsOf 53)) = some y10 := (hf 10 _ rfl).trans e10
  rw [c_int] at f0 f1 f2 f3
  rw [c_string] at f4
  rw [c_bool] at f5
  rw [c_cell] at f6
  rw [c_ints] at f7
  rw [c_patches] at f8
  rw [c_txs] at f9
  rw [c_dirty] at f10
  obtain ⟨k, g0, _⟩ := DataW.trod_int Try.underlying3 f0
  obtain ⟨tx, g1, _⟩ := DataW.trod_int Try.underlying3 f1
  obtain ⟨p, g2, _⟩ := DataW.trod_int Try.underlying3 f2
  obtain ⟨nn, g3, _⟩ := DataW.trod_int Try.underlying3 f3
  obtain ⟨s4, g4, _⟩ := DataW.trod_string Try.underlying9 f4
  obtain ⟨b5, g5, _⟩ := DataW.trod_bool Try.underlying4 f5
  obtain ⟨zs, m, _, _, _, hzs, hg⟩ := DataW.trod_struct Try.underlying50 f6
  have get2 : ∀ (i : Nat), i < 4 → ∃ y, zs[i]? = some y := fun i hi => ⟨zs[i]'(by rw [hzs]; exact hi), List.getElem?_eq_getElem _⟩
  obtain ⟨z0, u0⟩ := get2 0 (by omega)
  obtain ⟨z1, u1⟩ := get2 1 (by omega)
  obtain ⟨z2, u2⟩ := get2 2 (by omega)
  obtain ⟨z3, u3⟩ := get2 3 (by omega)
  have k0 : DataW.trod enc Try.prog w base spare held m 9 ((((cs.drop 6).take 4).drop 0).take (Try.prog.cellsOf 9)) = some z0 := (hg 0 _ rfl).trans u0
  have k1 : DataW.trod enc Try.prog w base spare held m 9 ((((cs.drop 6).take 4).drop 1).take (Try.prog.cellsOf 9)) = some z1 := (hg 1 _ rfl).trans u1
  have k2 : DataW.trod enc Try.prog w base spare held m 3 ((((cs.drop 6).take 4).drop 2).take (Try.prog.cellsOf 3)) = some z2 := (hg 2 _ rfl).trans u2
  have k3 : DataW.trod enc Try.prog w base spare held m 3 ((((cs.drop 6).take 4).drop 3).take (Try.prog.cellsOf 3)) = some z3 := (hg 3 _ rfl).trans u3
  rw [c_string] at k0 k1
  rw [c_int] at k2 k3
  obtain ⟨s6, g6, _⟩ := DataW.trod_string Try.underlying9 k0
  obtain ⟨s7, g7, _⟩ := DataW.trod_string Try.underlying9 k1
  obtain ⟨x8, g8, _⟩ := DataW.trod_int Try.underlying3 k2
  obtain ⟨x9, g9, _⟩ := DataW.trod_int Try.underlying3 k3
  obtain ⟨a10, n10, m10, g10⟩ := slice_form Try.underlying27 f7
  obtain ⟨a11, n11, m11, g11⟩ := slice_form Try.underlying51 f8
  obtain ⟨a12, n12, m12, g12⟩ := slice_form Try.underlying52 f9
  obtain ⟨a13, n13, m13, g13⟩ := slice_form Try.underlying53 f10
  refine ⟨k, p, nn, _, ⟨tx, s4, b5, s6, s7, x8, x9, a10, n10, m10, a11, n11, m11, a12, n12, m12, a13, n13, m13, rfl⟩, fun j hj => ?_⟩
  match j, hj with
  | 0, _ => exact one_of_take g0
  | 1, _ => exact one_of_take g1
  | 2, _ => exact one_of_take g2
  | 3, _ => exact one_of_take g3
  | 4, _ => exact one_of_take g4
  | 5, _ => exact one_of_take g5
  | 6, _ => exact one_of_take2 (o := 6) (j := 0) g6 (by omega)
  | 7, _ => exact one_of_take2 (o := 6) (j := 1) g7 (by omega)
  | 8, _ => exact one_of_take2 (o := 6) (j := 2) g8 (by omega)
  | 9, _ => exact one_of_take2 (o := 6) (j := 3) g9 (by omega)
  | 10, _ => exact one_of_take g10
  | 11, _ => exact one_of_take g11
  | 12, _ => exact one_of_take g12
  | 13, _ => exact one_of_take g13

theorem recs_of_trod {A : Option Addr} {len cap : Nat} {d : DataW H} {ps : List MemPlace} (h : DataW.Trod enc Try.prog w base (fun _ => true) true 22 (.slice A len cap) d ps) : ∃ K P N, Recs w A len K P N := by
  obtain ⟨fuel, hf⟩ := h
  rcases open_slice Try.underlying22 hf with ⟨hcs, _⟩ | ⟨a, l, c, m, n, D, Pl, hcs, _, hl, _, hm, _, hi⟩
  · simp [Value.cells] at hcs
    obtain ⟨rfl, rfl, rfl⟩ := hcs
    exact ⟨fun _ => 0, fun _ => 0, fun _ => 0, fun h0 => absurd h0 (by omega)⟩
  · simp [Value.cells] at hcs
    obtain ⟨rfl, rfl, rfl⟩ := hcs
    simp at hm
    have hall : ∀ i, ∃ kpn : Int × Int × Int, i < len → ∃ v, IsRec v kpn.1 kpn.2.1 kpn.2.2 ∧ ∀ j, j < 14 → w.cell? ((a.add (i * 14)).add j) = v[j]? := by
      intro i
      by_cases hil : i < len
      · obtain ⟨cs', hc, ht⟩ := hi i (by omega)
        rw [c_rec] at hc
        obtain ⟨_, hlen, hcell⟩ := World.cells?_some hc
        obtain ⟨k, p, nn, v, hv, hcs⟩ := rec_cells ht
        exact ⟨(k, p, nn), fun _ => ⟨v, hv, fun j hj => (hcell j hj).trans (hcs j hj)⟩⟩
      · exact ⟨(0, 0, 0), fun h => absurd h hil⟩
    obtain ⟨f, hf'⟩ := Classical.axiomOfChoice hall
    refine ⟨fun i => (f i).1, fun i => (f i).2.1, fun i => (f i).2.2, fun h0 => ?_⟩
    obtain ⟨b, off, spot⟩ := a
    have hspot : spot = none := by
      obtain ⟨v, ⟨_, _, _, _, _, _, _, _, _, _, _, _, _, _, _, _, _, _, _, rfl⟩, hc⟩ := hf' 0 h0
      have h1 := hc 0 (by omega)
      have h2 : w.cell? ⟨b, off, spot⟩ = some (.int .i64 (f 0).1) := by simpa [Addr.add] using h1
      exact World.cell?_spot h2
    subst hspot
    refine ⟨b, off, rfl, fun i hil => ?_⟩
    obtain ⟨v, ⟨tx, s4, b5, s6, s7, x8, x9, a10, n10, m10, a11, n11, m11, a12, n12, m12, a13, n13, m13, rfl⟩, hc⟩ := hf' i hil
    have ha : ∀ j, ((⟨b, off, none⟩ : Addr).add (i * 14)).add j = ⟨b, off + i * 14 + j, none⟩ := by
      intro j
      rw [Go.WideShapes.add_plain, Go.WideShapes.add_plain]
    have hc' : ∀ j, j < 14 → w.cell? ⟨b, off + i * 14 + j, none⟩ = _ := fun j hj => (ha j) ▸ hc j hj
    exact ⟨tx, s4, b5, s6, s7, x8, x9, a10, n10, m10, a11, n11, m11, a12, n12, m12, a13, n13, m13, hc' 0 (by omega), hc' 1 (by omega), hc' 2 (by omega), hc' 3 (by omega), hc' 4 (by omega), hc' 5 (by omega), hc' 6 (by omega), hc' 7 (by omega), hc' 8 (by omega), hc' 9 (by omega), hc' 10 (by omega), hc' 11 (by omega), hc' 12 (by omega), hc' 13 (by omega)⟩
end
end Go.Proofs.Ytlhmjmldndoekaa.Undo
