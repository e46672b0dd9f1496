import Derived.Test.YthckledagggoiaaGreatDoorZPh
import Derived.Shelf.SlIterI.Nil
set_option linter.unusedSimpArgs false
set_option linter.unusedVariables false
namespace Go.Proofs.YthckledagggoiaaGreatDoor
open Go.RowKit Go.Maps Go.Sort Go.Shelf
/-! aliases.sorted: the keys of a map, in order. -/
end Go.Proofs.YthckledagggoiaaGreatDoor
