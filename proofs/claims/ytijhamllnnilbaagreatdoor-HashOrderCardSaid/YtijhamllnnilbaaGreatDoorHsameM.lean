/- The contract of the book's SameEntries, at lists that are the same. -/
import Derived.Test.YtijhamllnnilbaaGreatDoorP28
import Derived.KernelRfl
import Derived.Deep.QuietTactic
import Derived.BigQuiet
import Derived.Outline
namespace Go.Proofs.YtijhamllnnilbaaGreatDoor.Ha
open Go.RowKit Go.Proofs.YtijhamllnnilbaaGreatDoor.Mem Go.Proofs.YtijhamllnnilbaaGreatDoor.Pg Go.Proofs.YtijhamllnnilbaaGreatDoor.Kp Go.Proofs.YtijhamllnnilbaaGreatDoor.Sp Go.Proofs.YtijhamllnnilbaaGreatDoor.Gr
set_option linter.unusedSimpArgs false
set_option linter.unusedVariables false
theorem entC_at (es : List Ent) (k : Nat) (hk : k < es.length) (r : Nat) (hr : r < 2) : (es.flatMap entC)[k * 2 + r]? = (entC es[k])[r]? := by
 induction es generalizing k with
 | nil => simp at hk
 | cons e es ih =>
  cases k with
  | zero =>
   rw [List.flatMap_cons, List.getElem?_append_left (by show 0 * 2 + r < 2; omega)]
   simp
  | succ k =>
   rw [List.flatMap_cons, List.getElem?_append_right (by show 2 ≤ (k + 1) * 2 + r; omega)]
   have e1 : (k + 1) * 2 + r - (entC e).length = k * 2 + r := by show (k + 1) * 2 + r - 2 = k * 2 + r; omega
   rw [e1, ih k (by simpa using hk)]
   rfl
def Ents (w : World) (A : Option Addr) (es : List Ent) : Prop :=
 0 < es.length → ∃ b off, A = some ⟨b, off, none⟩ ∧ b < w.heap.size ∧ ∀ j, j < es.length → w.cell? ⟨b, off + j * 2, none⟩ = some (.string (str (es.getD j ([], [])).1)) ∧ w.cell? ⟨b, off + j * 2 + 1, none⟩ = some (.string (str (es.getD j ([], [])).2))
theorem Ents.below {w w1 : World} {A : Option Addr} {es : List Ent} (h : Ents w A es) (hb : Below w.heap.size w w1) : Ents w1 A es := fun h0 => by
 obtain ⟨b, off, hA, hlt, hc⟩ := h h0
 exact ⟨b, off, hA, Nat.lt_of_lt_of_le hlt hb.size, fun j hj => ⟨(hb.cell hlt).trans (hc j hj).1, (hb.cell hlt).trans (hc j hj).2⟩⟩
theorem ents_of_own {w : World} {base cap : Nat} {A : Option Addr} {es : List Ent} (h : w.ownsRow base 57 2 (.slice A es.length cap) es.length (es.flatMap entC)) : Ents w A es := fun h0 => by
 obtain ⟨g, cap', h4, _, h5⟩ := h.form (by
  have : (es.flatMap entC)[0 * 2 + 0]? = _ := entC_at es 0 h0 0 (by omega)
  omega)
 obtain rfl : A = some ⟨g, 0, none⟩ := by injection h4
 refine ⟨g, 0, rfl, h5, fun j hj => ?_⟩
 have e1 : es.getD j ([], []) = es[j] := by rw [List.getD_eq_getElem?_getD, List.getElem?_eq_getElem hj]; rfl
 rw [e1, Nat.zero_add]
 exact ⟨own_at h _ _ (entC_at es j hj 0 (by omega)), own_at h _ _ (entC_at es j hj 1 (by omega))⟩
set_option maxRecDepth 100000 in
set_option maxHeartbeats 2000000 in
theorem sameEnts_eq (A B : Option Addr) (c d n : Nat) (es : List Ent) (w : World) (hn : n = es.length) (hl : n ≤ 1000000) (ha : Ents w A es) (hb : Ents w B es) :
 Calls Tryz.prog 20 #[.slice A n c, .slice B n d] w fun e w' => e = .returned (.bool true) ∧ Below w.heap.size w w' := by
 have HN := Lib.hid hn
 clear hn
 have HA := Lib.hid ha
 have HB := Lib.hid hb
 clear ha hb
 go_enter Tryz.func20, Tryz.ntmps20
 go_wp2_with fail
 go_loopw [5] (fun i wr => ∃ k : Nat, i = .int .i64 k ∧ k ≤ n ∧ Hid (Below w.heap.size w wr)) (fun i _ => n - (intOf i).toNat)
 case atStart => exact ⟨0, rfl, Nat.zero_le _, Lib.hid (Below.refl _ _)⟩
 case round =>
  obtain ⟨k, rfl, hk, hbel⟩ := hrel
  by_cases hlt : k < n
  · have hkI : (k : Int) < (n : Int) := by omega
    have i1 : IntKind.i64.wrap ((k : Int) + 1) = (k : Int) + 1 := IntWalk.i64_in _ (by omega)
    obtain ⟨b, off, hA, _, hca⟩ := (HA.out.below hbel.out) (by have := HN.out; omega)
    obtain ⟨b', off', hB, _, hcb⟩ := (HB.out.below hbel.out) (by have := HN.out; omega)
    subst hA hB
    obtain ⟨g1, g2⟩ := hca k (by have := HN.out; omega)
    obtain ⟨g3, g4⟩ := hcb k (by have := HN.out; omega)
    obtain ⟨U, hU⟩ : ∃ U, U = str (es.getD k ([], [])).1 := ⟨_, rfl⟩
    obtain ⟨V, hV⟩ : ∃ V, V = str (es.getD k ([], [])).2 := ⟨_, rfl⟩
    rw [← hU] at g1 g3
    rw [← hV] at g2 g4
    clear hU hV hca hcb
    go_wp2_with fail
    go_quiet (fail)
    go_wp2_with fail
    go_roundw
    case rel => exact ⟨k + 1, by go_num, by omega, Lib.hid (below_drN hbel.out _)⟩
    case measure => clear i1; simp [intOf]; omega
  · obtain rfl : k = n := by omega
    go_wp2_with fail
    go_ret
    exact ⟨rfl, hbel.out⟩
end Go.Proofs.YtijhamllnnilbaaGreatDoor.Ha
