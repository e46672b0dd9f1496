import Derived.Test.YthckledagggoiaaGreatDoorZPi
set_option linter.unusedSimpArgs false
set_option linter.unusedVariables false
namespace Go.Proofs.YthckledagggoiaaGreatDoor
open Go.RowKit Fk Sha
/-! The reference's numerals. -/
abbrev ownR (b : Nat) (w : World) (v : Value) (l : List B) : Prop := w.ownsRow b 5 1 v l.length (l.map bv)
theorem ownR.below {b : Nat} {w w' : World} {v : Value} {l : List B} (h : ownR b w v l) (hb : Below w.heap.size w w') : ownR b w' v l := World.ownsRow.kept h (grown_below' hb none) (Classical.em _)
theorem ownR.of {b : Nat} {w : World} {v : Value} {l l' : List B} {n : Nat} (h : w.ownsRow b 5 1 v n (l.map bv)) (hl : l = l') (hn : n = l'.length) : ownR b w v l' := by
  subst hl hn; exact h
end Go.Proofs.YthckledagggoiaaGreatDoor

set_option linter.unusedSimpArgs false
set_option linter.unusedVariables false
namespace Go.Proofs.YthckledagggoiaaGreatDoor
open Go.RowKit Fk Sha
/-! The reference's values: Int, Ints. -/
end Go.Proofs.YthckledagggoiaaGreatDoor

set_option linter.unusedSimpArgs false
set_option linter.unusedVariables false
namespace Go.Proofs.YthckledagggoiaaGreatDoor
open Go.RowKit Fk Sha
/-! The reference's checks of values. -/
end Go.Proofs.YthckledagggoiaaGreatDoor

set_option linter.unusedSimpArgs false
set_option linter.unusedVariables false
namespace Go.Proofs.YthckledagggoiaaGreatDoor
open Go.RowKit Fk Sha
/-! The reference's encoding. -/
end Go.Proofs.YthckledagggoiaaGreatDoor
