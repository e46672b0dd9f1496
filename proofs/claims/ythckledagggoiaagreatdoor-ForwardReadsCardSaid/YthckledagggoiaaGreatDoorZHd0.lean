import Derived.Test.YthckledagggoiaaGreatDoorZFp0
set_option linter.unusedSimpArgs false
set_option linter.unusedVariables false
namespace Go.Proofs.YthckledagggoiaaGreatDoor
open Go.RowKit Go.MapKept Go.Shelf Fk Sha
/-! An entry about somebody who is not asked changes nothing: in plain words. -/
/-! the registry stays right -/
/-! what the registry says of the others stays -/
/-! the same people are asked -/
end Go.Proofs.YthckledagggoiaaGreatDoor
