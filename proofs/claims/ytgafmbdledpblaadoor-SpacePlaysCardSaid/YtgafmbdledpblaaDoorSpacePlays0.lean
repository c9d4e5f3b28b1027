/- SpacePlays cut into pieces: ways into its code; what the pieces say. (Printed by tools/gen_sp.py.) -/
import Derived.Test.YtgafmbdledpblaaDoorSpaceRefMap
import Derived.Test.YtgafmbdledpblaaDoorSpaceRead
import Derived.Deep.Cut
import Derived.Deep.CutRange
import Derived.Deep.CutBlock
import Derived.Deep.DeepCutAuto
import Derived.RegionTactic
namespace Go.Proofs.YtgafmbdledpblaaDoor.Sp
open Go.RowKit Go.Proofs.YtgafmbdledpblaaDoor.Mem Go.Proofs.YtgafmbdledpblaaDoor.Pg
set_option linter.unusedSimpArgs false
set_option linter.unusedVariables false
/-- Ways into a function's code. -/
inductive St where | l | r | b | t | e
def sub : Code → List St → Code
  | c, [] => c
  | .seq a _, .l :: p => sub a p
  | .seq _ c, .r :: p => sub c p
  | .loop c, .b :: p => sub c p
  | .block _ c, .b :: p => sub c p
  | .cond _ a _, .t :: p => sub a p
  | .cond _ _ c, .e :: p => sub c p
  | _, _ => .skip
noncomputable def cTake : Code := sub (Tryd.f3.body.getD .skip) [.r, .r, .r, .r, .r, .r, .r, .l, .r, .b, .b, .r, .r, .l, .b, .r, .r, .l, .r, .b, .r, .t]
noncomputable def cGive : Code := sub (Tryd.f3.body.getD .skip) [.r, .r, .r, .r, .r, .r, .r, .l, .r, .b, .b, .r, .r, .l, .b, .r, .r, .l, .r, .b, .r, .e, .r, .t]
noncomputable def cTail : Code := sub (Tryd.f3.body.getD .skip) [.r, .r, .r, .r, .r, .r, .r, .l, .r, .b, .b, .r, .r, .l, .b, .r, .r, .r]
noncomputable def cFrom11 : Code := sub (Tryd.f3.body.getD .skip) [.r, .r, .r, .r, .r, .r, .r]
noncomputable def cSw : Code := sub (Tryd.f3.body.getD .skip) [.r, .r, .r, .r, .r, .r, .r, .l, .r, .b, .b, .r, .r, .l, .b, .r, .r, .l, .r]
abbrev pgo (a b c : Int) (s : ByteArray) : Obj := .cells #[.int .i64 a, .int .i64 b, .int .i64 c, .string s] 23 (0, 0)
abbrev opo (a b : Int) : Obj := .cells #[.int .i64 a, .int .i64 b] 30 (0, 0)
theorem wp_world {P : Program} {c : Code} {Q : Exit → Act → World → Prop} {f : Act} {a b : World} (h : b = a) (k : Code.wp P c Q f b) : Code.wp P c Q f a := h ▸ k
/-- Where the first free page is, among the first j. -/
def FirstAt (L : List UInt8) (j : Nat) (f : Int) : Prop := (f = -1 ∧ ∀ i, i < j → bt L i ≠ 2) ∨ ∃ t : Nat, f = t ∧ t + 1 = j ∧ bt L t = 2 ∧ ∀ i, i < t → bt L i ≠ 2
theorem below_box {w w2 : World} {o : Obj} (h : Below (w.alloc o).heap.size (w.alloc o) w2) : Below w.heap.size w w2 := below_tr (below_al (Below.refl _ w) o) h
/-- A round's blocks: the page, the thing that is done. -/
structure Rb (w : World) (B0 pb ob : Nat) (k D X : Int) (L : List UInt8) (kd nn : Int) : Prop where
  k9 : w.heap[pb]? = some (pgo k D X (str L))
  k13 : w.heap[ob]? = some (opo kd nn)
  lt : B0 ≤ pb ∧ pb < ob ∧ ob < w.heap.size
end Go.Proofs.YtgafmbdledpblaaDoor.Sp
