/- HashOverflows: the walk. -/
import Derived.Test.YtijhamllnnilbaaGreatDoorP36
import Derived.Test.YtijhamllnnilbaaGreatDoorP33
import Derived.Test.YtijhamllnnilbaaGreatDoorHovMM
namespace Go.Proofs.YtijhamllnnilbaaGreatDoor.Ha
open Go.RowKit Go.Proofs.YtijhamllnnilbaaGreatDoor.Mem Go.Proofs.YtijhamllnnilbaaGreatDoor.Pg Go.Proofs.YtijhamllnnilbaaGreatDoor.Kp Go.Proofs.YtijhamllnnilbaaGreatDoor.Sp Go.Proofs.YtijhamllnnilbaaGreatDoor.Gr
set_option linter.unusedSimpArgs false
set_option linter.unusedVariables false
def Txts (w : World) (A : Option Addr) (n : Nat) (T : Nat → List UInt8) : Prop :=
 (∀ j, j < n → (str (T j)).size ≤ maxLen) ∧ (0 < n → ∃ b off, A = some ⟨b, off, none⟩ ∧ b < w.heap.size ∧ ∀ j, j < n → w.cell? ⟨b, off + j, none⟩ = some (.string (str (T j))))
theorem free_st {w0 w : World} {gb mb sb qb c n D : Nat} {pg : Nat → Pag} {t : Tri} {ml : List UInt8} {tk0 : Int} (h : St w0 w gb mb sb qb c n pg D t ml [] tk0) :
 ∃ f : Nat, f + 2 + (numsF t.leaves).length = n ∧ Calls Tryz.prog 29 #[.pointer (some ⟨gb, 0, none⟩)] w fun e w' => e = .returned (.int .i64 (f : Nat)) ∧ Below w.heap.size w w' := by
 obtain ⟨md, mx, hp⟩ := h.hs.map
 have h1 := free_len h.hs
 simp only [List.length_nil, Nat.add_zero] at h1
 exact ⟨_, h1, h.gv.free hp h.hs.is⟩
theorem free_at {w0 w : World} {gb mb sb qb c n D f : Nat} {pg : Nat → Pag} {t : Tri} {ml : List UInt8} {tk0 : Int} (h : St w0 w gb mb sb qb c n pg D t ml [] tk0) (hf : f + 2 + (numsF t.leaves).length = n) :
 Calls Tryz.prog 29 #[.pointer (some ⟨gb, 0, none⟩)] w fun e w' => e = .returned (.int .i64 (f : Nat)) ∧ Below w.heap.size w w' ∧ St w0 w' gb mb sb qb c n pg D t ml [] tk0 := by
 obtain ⟨f', h1, h2⟩ := free_st h
 obtain rfl : f' = f := by omega
 exact h2.mono fun e w' ⟨he, hb⟩ => ⟨he, hb, h.gv.below hb, h.hs⟩
end Go.Proofs.YtijhamllnnilbaaGreatDoor.Ha
