import Derived.Test.YthckledagggoiaaGreatDoorZAs6
import Derived.Deep.QuietTactic
import Derived.BigQuiet
set_option linter.unusedSimpArgs false
set_option linter.unusedVariables false
namespace Go.Proofs.YthckledagggoiaaGreatDoor
open Go.RowKit Go.MapKept Go.Shelf Fk
attribute [local go_sem] Oper.semAt_some
/-! The law's own functions: lives, Same, Few, living. -/
theorem infoEn : (Tryz.prog.info? 49).map (·.size) = some 8 := by kernel_rfl
end Go.Proofs.YthckledagggoiaaGreatDoor
