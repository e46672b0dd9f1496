import Derived.Test.YthckledagggoiaaGreatDoorZMh
import Derived.Test.YthckledagggoiaaGreatDoorZAs2
set_option linter.unusedSimpArgs false
set_option linter.unusedVariables false
namespace Go.Proofs.YthckledagggoiaaGreatDoor
open Go.RowKit Go.MapKept Go.Shelf Fk
attribute [local go_sem] Oper.semAt_some
/-! aliases.living -/
end Go.Proofs.YthckledagggoiaaGreatDoor
