import Derived.Test.YthckledagggoiaaGreatDoorZFs5
set_option linter.unusedSimpArgs false
set_option linter.unusedVariables false
namespace Go.Proofs.YthckledagggoiaaGreatDoor
open Go.RowKit Go.Shelf Fk Sha
/-! The laws' states. -/
structure TS (w W : World) (n : Int) (v : Value) : Prop where
  bel : Below w.heap.size w W
  row : Row W w.heap.size 24 [.int .i64 n, v]
theorem TS.start (w : World) (n : Int) (v : Value) : TS w (w.alloc (.cells #[.int .i64 n, v] 24)) n v := ⟨below_alloc' w _, Row.new w 24 [.int .i64 n, v]⟩
theorem TS.below {w W W' : World} {n : Int} {v : Value} (h : TS w W n v) (hb : Below W.heap.size W W') : TS w W' n v := ⟨h.bel.trans (hb.mono h.bel.size), h.row.below hb h.row.lt⟩
theorem TS.cells {w W : World} {n : Int} {v : Value} (h : TS w W n v) : W.cell? ⟨w.heap.size, 0, none⟩ = some (.int .i64 n) ∧ W.cell? ⟨w.heap.size, 1, none⟩ = some v := ⟨h.row.cell 0, h.row.cell 1⟩
structure FwS (w W : World) (n : Int) (v : Value) (G1 G2 : Nat) (X1 X2 : Fw) : Prop where
  ts : TS w W n v
  r1 : Row W G1 38 X1.cells
  r2 : Row W G2 38 X2.cells
theorem FwS.below {w W W' : World} {n : Int} {v : Value} {G1 G2 : Nat} {X1 X2 : Fw} (h : FwS w W n v G1 G2 X1 X2) (hb : Below W.heap.size W W') : FwS w W' n v G1 G2 X1 X2 := ⟨h.ts.below hb, h.r1.below hb h.r1.lt, h.r2.below hb h.r2.lt⟩
end Go.Proofs.YthckledagggoiaaGreatDoor
