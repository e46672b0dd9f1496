import Derived.Test.YthckledagggoiaaGreatDoorFs5
set_option linter.unusedSimpArgs false
set_option linter.unusedVariables false
namespace Go.Proofs.YthckledagggoiaaGreatDoor
open Go.RowKit Go.Shelf Fk Sha
/-! The laws' states. -/
theorem zeroR : zero32 = zeroD.map bv := rfl
theorem eqBack {x : Fw} (h : backOK x) (w : World) : (Op.equalIn 10000 36 (.agg (retC x.line x.key x.a x.b (x.ds.map bv)).toArray) (.agg (retC 0 0 0 0 (zeroD.map bv)).toArray)).run Tryz.prog w = .ok (decide (backZ x)) w := by
  have z : okN 0 := by unfold okN; omega
  rw [eqRet h ⟨z, z, z, z, rfl⟩ w]
  congr 1
  rw [decide_eq_decide]
  unfold backZ
  constructor
  · rintro ⟨h1, h2, h3, h4, h5⟩; exact ⟨h1.symm, h2.symm, h3.symm, h4.symm, h5.symm⟩
  · rintro ⟨h1, h2, h3, h4, h5⟩; exact ⟨h1.symm, h2.symm, h3.symm, h4.symm, h5.symm⟩
theorem back_len {x : Fw} (h : backOK x) : (retC x.line x.key x.a x.b (x.ds.map bv)).length = 36 := retC_len (by rw [List.length_map]; exact h.2.2.2.2)
structure TS (w W : World) (n : Int) (v : Value) : Prop where
  bel : Below w.heap.size w W
  row : Row W w.heap.size 24 [.int .i64 n, v]
theorem TS.start (w : World) (n : Int) (v : Value) : TS w (w.alloc (.cells #[.int .i64 n, v] 24)) n v := ⟨below_alloc' w _, Row.new w 24 [.int .i64 n, v]⟩
theorem TS.below {w W W' : World} {n : Int} {v : Value} (h : TS w W n v) (hb : Below W.heap.size W W') : TS w W' n v := ⟨h.bel.trans (hb.mono h.bel.size), h.row.below hb h.row.lt⟩
theorem TS.cells {w W : World} {n : Int} {v : Value} (h : TS w W n v) : W.cell? ⟨w.heap.size, 0, none⟩ = some (.int .i64 n) ∧ W.cell? ⟨w.heap.size, 1, none⟩ = some v := ⟨h.row.cell 0, h.row.cell 1⟩
structure FwS (w W : World) (n : Int) (v : Value) (G1 G2 : Nat) (X1 X2 : Fw) : Prop where
  ts : TS w W n v
  r1 : Row W G1 38 X1.cells
  r2 : Row W G2 38 X2.cells
theorem FwS.below {w W W' : World} {n : Int} {v : Value} {G1 G2 : Nat} {X1 X2 : Fw} (h : FwS w W n v G1 G2 X1 X2) (hb : Below W.heap.size W W') : FwS w W' n v G1 G2 X1 X2 := ⟨h.ts.below hb, h.r1.below hb h.r1.lt, h.r2.below hb h.r2.lt⟩
theorem infoInF : (Tryz.prog.info? 3).map (fun i => (i.zero, i.size, i.bytes)) = some (some (.int .i64 0), 1, 8) := by kernel_rfl
theorem flatIF (l : List Int) : l.flatMap Fk.encI = l.map (Value.int .i64) := by
  induction l with
  | nil => rfl
  | cons a l ih => rw [List.flatMap_cons, List.map_cons, ih]; rfl
theorem own_rep {W : World} {B0 : Nat} {v : Value} {k : Nat} {key : Int} (h : W.ownsRow B0 3 1 v k ((List.replicate k key).map (Value.int .i64))) (hk : k ≤ 1000) : SlI W W.heap.size v (List.replicate k key) := by
  rw [← flatIF] at h
  exact own_slG h (fun _ => rfl) (by simp) (by simp; omega)
theorem few_len {l : List Lx} (h : few20 l = true) : l.length ≤ 100 := by
  unfold few20 at h
  split at h
  · simp at h; omega
  · omega
theorem mulE_0 {a b : Int} (ha : vld a = true) (hb : vld b = true) : mulE a b = 0 := by simp [mulE, ha, hb]
end Go.Proofs.YthckledagggoiaaGreatDoor
