/-
  No cell of these rows narrows 'for every input' (looked for: loops, veiled, ifaces, maps, wideKeys, modest, calm, conditions, laid).
  DERIVED. THE GIVEN ROWS OF THIS SEAT. 4 by the template 'for every input the law returns true; each argument reads behind the call as it read before'; 0 by the template 'total and deterministic' (their statements: YtlhmjmldndoekaaTotals.lean).
  GIVEN WITH THE SEED: the statements are not yours to turn. If you find one false, say at which input.
  Laid BY PROGRAM, IN A SANDBOX (cutbox-rows.mjs): the forced cells as the released guide's own fill.sh prints them over the translation bf729d95a0f0f4b7… (all of the seat's roots in one cut). By AI agents, Wed Nov 11 2026. No macro, syntax, notation, axiom, sorry.
-/
import Derived.Test.YtlhmjmldndoekaaChecked
import GoSem.Claim
import GoSem.ClaimJoined
import GoSem.ClaimMapViews
import Derived.JoinedTies
import Derived.KernelRfl
namespace Go.Proofs.Ytlhmjmldndoekaa
/- THE CELL 'sum', in the pinned program and in every row, IS THE sha256 OF THE DUMP (.gsa) THAT YtlhmjmldndoekaaProg.lean LOADS. Nothing in Lean hashes anything: it is a label: what it is worth is what the hold of that sum in a sandbox is worth. -/
noncomputable def Try.pinned : Pinned := { name := "ytlhmjmldndoekaa", sum := "bf729d95a0f0f4b7fd02ab1bbe999909ef66f04b3dce9ec74256d76996531040", checked := Try.checked }
namespace Rows
def none {H : Type} : Left H := { results := [], args := [] }

/-- 'honeycomblaw21.UndoTells': WHATEVER THE INPUT: true; the input reads as it did. -/
def undoTellsSpec : ChangeSpec := { name := "undoTells", fn := fun _ => fun
  | [d1, d2, d3] => { results := [.lit (.bool true)], args := [d1, d2, d3] }
  | _ => none }
def undoTellsRow : OpenClaim := { program := "ytlhmjmldndoekaa", sum := "bf729d95a0f0f4b7fd02ab1bbe999909ef66f04b3dce9ec74256d76996531040", func := "honeycomb/honeycomblaw21.UndoTells", spec := "undoTells", unfollowed := true, recurses := true, apart := false }
def UndoTellsSaid : Prop := undoTellsRow.holds Try.pinned (OpenSpec.ofChange undoTellsSpec)

/-- ITS FALSE NEIGHBOUR: 'it returns false'. Refute it at one input. -/
def undoTellsWrong : ChangeSpec := { name := "undoTells", fn := fun _ => fun
  | [d1, d2, d3] => { results := [.lit (.bool false)], args := [d1, d2, d3] }
  | _ => none }
def UndoTellsWrongFalsely : Prop := undoTellsRow.holds Try.pinned (OpenSpec.ofChange undoTellsWrong)

/-- 'honeycomblaw21.UndoOnce': WHATEVER THE INPUT: true; the input reads as it did. -/
def undoOnceSpec : ChangeSpec := { name := "undoOnce", fn := fun _ => fun
  | [d1, d2] => { results := [.lit (.bool true)], args := [d1, d2] }
  | _ => none }
def undoOnceRow : OpenClaim := { program := "ytlhmjmldndoekaa", sum := "bf729d95a0f0f4b7fd02ab1bbe999909ef66f04b3dce9ec74256d76996531040", func := "honeycomb/honeycomblaw21.UndoOnce", spec := "undoOnce", unfollowed := true, recurses := true, apart := false }
def UndoOnceSaid : Prop := undoOnceRow.holds Try.pinned (OpenSpec.ofChange undoOnceSpec)

/-- ITS FALSE NEIGHBOUR: 'it returns false'. Refute it at one input. -/
def undoOnceWrong : ChangeSpec := { name := "undoOnce", fn := fun _ => fun
  | [d1, d2] => { results := [.lit (.bool false)], args := [d1, d2] }
  | _ => none }
def UndoOnceWrongFalsely : Prop := undoOnceRow.holds Try.pinned (OpenSpec.ofChange undoOnceWrong)

/-- 'honeycomblaw21.UndoParts': WHATEVER THE INPUT: true; the input reads as it did. -/
def undoPartsSpec : ChangeSpec := { name := "undoParts", fn := fun _ => fun
  | [d1, d2, d3] => { results := [.lit (.bool true)], args := [d1, d2, d3] }
  | _ => none }
def undoPartsRow : OpenClaim := { program := "ytlhmjmldndoekaa", sum := "bf729d95a0f0f4b7fd02ab1bbe999909ef66f04b3dce9ec74256d76996531040", func := "honeycomb/honeycomblaw21.UndoParts", spec := "undoParts", unfollowed := true, recurses := true, apart := false }
def UndoPartsSaid : Prop := undoPartsRow.holds Try.pinned (OpenSpec.ofChange undoPartsSpec)

/-- ITS FALSE NEIGHBOUR: 'it returns false'. Refute it at one input. -/
def undoPartsWrong : ChangeSpec := { name := "undoParts", fn := fun _ => fun
  | [d1, d2, d3] => { results := [.lit (.bool false)], args := [d1, d2, d3] }
  | _ => none }
def UndoPartsWrongFalsely : Prop := undoPartsRow.holds Try.pinned (OpenSpec.ofChange undoPartsWrong)

/-- 'honeycomblaw21.UndoForward': WHATEVER THE INPUT: true; the input reads as it did. -/
def undoForwardSpec : ChangeSpec := { name := "undoForward", fn := fun _ => fun
  | [d1, d2, d3] => { results := [.lit (.bool true)], args := [d1, d2, d3] }
  | _ => none }
def undoForwardRow : OpenClaim := { program := "ytlhmjmldndoekaa", sum := "bf729d95a0f0f4b7fd02ab1bbe999909ef66f04b3dce9ec74256d76996531040", func := "honeycomb/honeycomblaw21.UndoForward", spec := "undoForward", unfollowed := true, recurses := true, apart := false }
def UndoForwardSaid : Prop := undoForwardRow.holds Try.pinned (OpenSpec.ofChange undoForwardSpec)

/-- ITS FALSE NEIGHBOUR: 'it returns false'. Refute it at one input. -/
def undoForwardWrong : ChangeSpec := { name := "undoForward", fn := fun _ => fun
  | [d1, d2, d3] => { results := [.lit (.bool false)], args := [d1, d2, d3] }
  | _ => none }
def UndoForwardWrongFalsely : Prop := undoForwardRow.holds Try.pinned (OpenSpec.ofChange undoForwardWrong)

/- THE SECOND FORM. 'bulk': how many values and letters a reading holds, each counted each time it is reached (what is shared counts as often as it is met; a slice's spare places count too). A statement '..UptoSaid' is the law's where the arguments, and the package variables that the reading takes, are together of bulk at most 1048576: NARROWER than '..Said'. Prove '..Said' where nothing that the law and all that it calls make is longer than what came in: it says more and counts as full. Else prove '..UptoSaid'. A law counts once. -/
mutual
def uptoBulk {H : Type} : DataW H → Nat
  | .lit (.string bytes) => bytes.length + 1
  | .lit _ => 1
  | .nil => 1
  | .ptr d => uptoBulk d + 1
  | .slice elems spare => uptoBulkAll elems + uptoBulkAll spare + 1
  | .agg parts => uptoBulkAll parts + 1
  | .iface _ d => uptoBulk d + 1
  | .map entries => uptoBulkEntries entries + 1
  | .held _ => 1
def uptoBulkAll {H : Type} : List (DataW H) → Nat
  | [] => 0
  | d :: r => uptoBulk d + uptoBulkAll r
def uptoBulkEntries {H : Type} : List (Lit × DataW H) → Nat
  | [] => 0
  | x :: r => uptoBulkEntry x + uptoBulkEntries r
def uptoBulkEntry {H : Type} : Lit × DataW H → Nat
  | (.string bytes, d) => bytes.length + uptoBulk d + 1
  | (_, d) => uptoBulk d + 1
 end
def uptoSmall : (H : Type) → List (DataW H) → Bool := fun _ ds => decide (uptoBulkAll ds ≤ 1048576)
def OpenSpec.upto (s : _root_.Go.ChangeSpec) : _root_.Go.OpenSpec := { _root_.Go.OpenSpec.ofChange s with cond := some uptoSmall }

/-- 'honeycomblaw21.UndoTells', WHERE WHAT IT READS IS OF BULK AT MOST 1048576: true; the input reads as it did. -/
def undoTellsUptoRow : OpenClaim := { program := "ytlhmjmldndoekaa", sum := "bf729d95a0f0f4b7fd02ab1bbe999909ef66f04b3dce9ec74256d76996531040", func := "honeycomb/honeycomblaw21.UndoTells", spec := "undoTells", unfollowed := true, recurses := true, apart := false, narrowed := true }
def UndoTellsUptoSaid : Prop := undoTellsUptoRow.holds Try.pinned (OpenSpec.upto undoTellsSpec)

/-- 'honeycomblaw21.UndoOnce', WHERE WHAT IT READS IS OF BULK AT MOST 1048576: true; the input reads as it did. -/
def undoOnceUptoRow : OpenClaim := { program := "ytlhmjmldndoekaa", sum := "bf729d95a0f0f4b7fd02ab1bbe999909ef66f04b3dce9ec74256d76996531040", func := "honeycomb/honeycomblaw21.UndoOnce", spec := "undoOnce", unfollowed := true, recurses := true, apart := false, narrowed := true }
def UndoOnceUptoSaid : Prop := undoOnceUptoRow.holds Try.pinned (OpenSpec.upto undoOnceSpec)

/-- 'honeycomblaw21.UndoParts', WHERE WHAT IT READS IS OF BULK AT MOST 1048576: true; the input reads as it did. -/
def undoPartsUptoRow : OpenClaim := { program := "ytlhmjmldndoekaa", sum := "bf729d95a0f0f4b7fd02ab1bbe999909ef66f04b3dce9ec74256d76996531040", func := "honeycomb/honeycomblaw21.UndoParts", spec := "undoParts", unfollowed := true, recurses := true, apart := false, narrowed := true }
def UndoPartsUptoSaid : Prop := undoPartsUptoRow.holds Try.pinned (OpenSpec.upto undoPartsSpec)

/-- 'honeycomblaw21.UndoForward', WHERE WHAT IT READS IS OF BULK AT MOST 1048576: true; the input reads as it did. -/
def undoForwardUptoRow : OpenClaim := { program := "ytlhmjmldndoekaa", sum := "bf729d95a0f0f4b7fd02ab1bbe999909ef66f04b3dce9ec74256d76996531040", func := "honeycomb/honeycomblaw21.UndoForward", spec := "undoForward", unfollowed := true, recurses := true, apart := false, narrowed := true }
def UndoForwardUptoSaid : Prop := undoForwardUptoRow.holds Try.pinned (OpenSpec.upto undoForwardSpec)

end Rows
end Go.Proofs.Ytlhmjmldndoekaa
