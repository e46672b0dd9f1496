import Derived.Test.YthckledagggoiaaGreatDoorZMg
import Derived.Maps.OwnIn
set_option linter.unusedSimpArgs false
set_option linter.unusedVariables false
namespace Fk
open Go Go.MapKept Go.RowKit
/-! The laws of XMap inside a fence. -/
section
variable {P : Program} {κ : Type} {kv : κ → Value} {F : Fence} {nF : Nat} {w : World}
end
end Fk
