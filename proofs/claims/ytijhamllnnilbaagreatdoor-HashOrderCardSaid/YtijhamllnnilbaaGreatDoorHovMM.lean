/- A map of texts: what lies in it is of a list; a range over it. -/
import Derived.Test.YtijhamllnnilbaaGreatDoorP26
import Derived.Maps.RangeWalk
import Derived.StringKeys
namespace Go.Proofs.YtijhamllnnilbaaGreatDoor.Ha
open Go.RowKit Go.Proofs.YtijhamllnnilbaaGreatDoor.Mem Go.Proofs.YtijhamllnnilbaaGreatDoor.Pg Go.Proofs.YtijhamllnnilbaaGreatDoor.Kp Go.Proofs.YtijhamllnnilbaaGreatDoor.Sp Go.Proofs.YtijhamllnnilbaaGreatDoor.Gr
set_option linter.unusedVariables false
set_option linter.unusedSimpArgs false
theorem skeyed : Maps.Keyed Tryz.prog 9 := Maps.string_keyed Tryz.underlying9
section
variable (w : World) {ops : Array Oper} {rest : List Oper} {o : Oper} {a : Act} {Q : Exit → Act → World → Prop}
end
end Go.Proofs.YtijhamllnnilbaaGreatDoor.Ha
