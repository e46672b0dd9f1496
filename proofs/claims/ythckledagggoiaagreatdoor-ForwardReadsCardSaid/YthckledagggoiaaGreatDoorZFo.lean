import Derived.Test.YthckledagggoiaaGreatDoorZEnO
import Derived.Test.YthckledagggoiaaGreatDoorZFr7
set_option linter.unusedSimpArgs false
set_option linter.unusedVariables false
namespace Go.Proofs.YthckledagggoiaaGreatDoor
open Go.RowKit Go.WideShapes Go.ChangeShapes Go.ChangeMaps Go.Deep Go.Shelf Fk Sha
/-! Timetables as arguments. -/
section
variable {H : Type} {enc : TypeId × Value → H} {w : World} {base : Nat} {r : Reach}
theorem el_int {n : Nat} {cs : List Value} {x : DataW H × List MemPlace} (hc : cs.length = 1) (h : DataW.trod enc Tryz.prog w 0 (fun _ => true) true n 3 cs = some x) : ∃ a : Int, True ∧ cs = Fk.encI a := by
  match cs, hc with
  | [x0], _ =>
    obtain ⟨y, e, _, _⟩ := DataW.trod_int Tryz.underlying3 h
    obtain rfl : x0 = .int .i64 y := by simpa using e
    exact ⟨y, trivial, rfl⟩
set_option maxRecDepth 100000 in
theorem el_rl {n : Nat} {cs : List Value} {x : DataW H × List MemPlace} (hc : cs.length = 3) (h : DataW.trod enc Tryz.prog w 0 (fun _ => true) true n 161 cs = some x) : ∃ a : Rl, True ∧ cs = Rl.cells a := by
  obtain ⟨ys, n, _, _, hlen, hyl, hfs⟩ := DataW.trod_struct Tryz.underlying161 h
  have c0 : Tryz.prog.cellsOf 3 = 1 := by kernel_rfl
  obtain ⟨z0, g0⟩ := some_atE hyl (show 0 < _ by decide)
  have a0 : DataW.trod enc Tryz.prog w 0 (fun _ => true) true n 3 ((cs.drop 0).take (Tryz.prog.cellsOf 3)) = some z0 := (hfs 0 _ rfl).trans g0
  rw [c0, take_oneE (by omega)] at a0
  obtain ⟨y0, e0, _, _⟩ := DataW.trod_int Tryz.underlying3 a0
  obtain ⟨z1, g1⟩ := some_atE hyl (show 1 < _ by decide)
  have a1 : DataW.trod enc Tryz.prog w 0 (fun _ => true) true n 3 ((cs.drop 1).take (Tryz.prog.cellsOf 3)) = some z1 := (hfs 1 _ rfl).trans g1
  rw [c0, take_oneE (by omega)] at a1
  obtain ⟨y1, e1, _, _⟩ := DataW.trod_int Tryz.underlying3 a1
  obtain ⟨z2, g2⟩ := some_atE hyl (show 2 < _ by decide)
  have a2 : DataW.trod enc Tryz.prog w 0 (fun _ => true) true n 3 ((cs.drop 2).take (Tryz.prog.cellsOf 3)) = some z2 := (hfs 2 _ rfl).trans g2
  rw [c0, take_oneE (by omega)] at a2
  obtain ⟨y2, e2, _, _⟩ := DataW.trod_int Tryz.underlying3 a2
  match cs, hc with
  | [x0, x1, x2], _ =>
    simp at e0 e1 e2
    subst e0 e1 e2
    exact ⟨⟨y0, y1, y2⟩, trivial, rfl⟩
set_option maxRecDepth 100000 in
theorem el_gp {n : Nat} {cs : List Value} {x : DataW H × List MemPlace} (hc : cs.length = 2) (h : DataW.trod enc Tryz.prog w 0 (fun _ => true) true n 163 cs = some x) : ∃ a : Gp, True ∧ cs = Gp.cells a := by
  obtain ⟨ys, n, _, _, hlen, hyl, hfs⟩ := DataW.trod_struct Tryz.underlying163 h
  have c0 : Tryz.prog.cellsOf 3 = 1 := by kernel_rfl
  obtain ⟨z0, g0⟩ := some_atE hyl (show 0 < _ by decide)
  have a0 : DataW.trod enc Tryz.prog w 0 (fun _ => true) true n 3 ((cs.drop 0).take (Tryz.prog.cellsOf 3)) = some z0 := (hfs 0 _ rfl).trans g0
  rw [c0, take_oneE (by omega)] at a0
  obtain ⟨y0, e0, _, _⟩ := DataW.trod_int Tryz.underlying3 a0
  obtain ⟨z1, g1⟩ := some_atE hyl (show 1 < _ by decide)
  have a1 : DataW.trod enc Tryz.prog w 0 (fun _ => true) true n 3 ((cs.drop 1).take (Tryz.prog.cellsOf 3)) = some z1 := (hfs 1 _ rfl).trans g1
  rw [c0, take_oneE (by omega)] at a1
  obtain ⟨y1, e1, _, _⟩ := DataW.trod_int Tryz.underlying3 a1
  match cs, hc with
  | [x0, x1], _ =>
    simp at e0 e1
    subst e0 e1
    exact ⟨⟨y0, y1⟩, trivial, rfl⟩
def Lx.okC (w : World) (x : Lx) : Prop := x.okW w w.heap.size ∧ ∃ A c, x.ov = .slice A x.ol.length c ∧ x.ol.length ≤ c
set_option maxRecDepth 100000 in
theorem el_line {n : Nat} {cs : List Value} {x : DataW H × List MemPlace} (hc : cs.length = 6) (h : DataW.trod enc Tryz.prog w 0 (fun _ => true) true n 68 cs = some x) : ∃ a : Lx, a.okC w ∧ cs = Lx.cells a := by
  obtain ⟨ys, n, _, _, hlen, hyl, hfs⟩ := DataW.trod_struct Tryz.underlying68 h
  have c0 : Tryz.prog.cellsOf 3 = 1 := by kernel_rfl
  have k0 : Tryz.prog.cellsOf 25 = 1 := by kernel_rfl
  have k1 : Tryz.prog.cellsOf 65 = 1 := by kernel_rfl
  have k2 : Tryz.prog.cellsOf 66 = 1 := by kernel_rfl
  obtain ⟨z0, g0⟩ := some_atE hyl (show 0 < _ by decide)
  have a0 : DataW.trod enc Tryz.prog w 0 (fun _ => true) true n 25 ((cs.drop 0).take (Tryz.prog.cellsOf 25)) = some z0 := (hfs 0 _ rfl).trans g0
  rw [k0, take_oneE (by omega)] at a0
  obtain ⟨l0, A0, d0, e0, s0, q0, _, _⟩ := open_slG (m := 1) (en := Fk.encI) (Q := fun _ => True) (by omega) Tryz.underlying25 (by kernel_rfl) (fun n cs x h1 h2 => el_int h1 h2) a0
  obtain ⟨z1, g1⟩ := some_atE hyl (show 1 < _ by decide)
  have a1 : DataW.trod enc Tryz.prog w 0 (fun _ => true) true n 25 ((cs.drop 1).take (Tryz.prog.cellsOf 25)) = some z1 := (hfs 1 _ rfl).trans g1
  rw [k0, take_oneE (by omega)] at a1
  obtain ⟨l1, A1, d1, e1, s1, q1, _, _⟩ := open_slG (m := 1) (en := Fk.encI) (Q := fun _ => True) (by omega) Tryz.underlying25 (by kernel_rfl) (fun n cs x h1 h2 => el_int h1 h2) a1
  obtain ⟨z2, g2⟩ := some_atE hyl (show 2 < _ by decide)
  have a2 : DataW.trod enc Tryz.prog w 0 (fun _ => true) true n 3 ((cs.drop 2).take (Tryz.prog.cellsOf 3)) = some z2 := (hfs 2 _ rfl).trans g2
  rw [c0, take_oneE (by omega)] at a2
  obtain ⟨y2, e2, _, _⟩ := DataW.trod_int Tryz.underlying3 a2
  obtain ⟨z3, g3⟩ := some_atE hyl (show 3 < _ by decide)
  have a3 : DataW.trod enc Tryz.prog w 0 (fun _ => true) true n 3 ((cs.drop 3).take (Tryz.prog.cellsOf 3)) = some z3 := (hfs 3 _ rfl).trans g3
  rw [c0, take_oneE (by omega)] at a3
  obtain ⟨y3, e3, _, _⟩ := DataW.trod_int Tryz.underlying3 a3
  obtain ⟨z4, g4⟩ := some_atE hyl (show 4 < _ by decide)
  have a4 : DataW.trod enc Tryz.prog w 0 (fun _ => true) true n 65 ((cs.drop 4).take (Tryz.prog.cellsOf 65)) = some z4 := (hfs 4 _ rfl).trans g4
  rw [k1, take_oneE (by omega)] at a4
  obtain ⟨l4, A4, d4, e4, s4, q4, _, _⟩ := open_slG (m := 3) (en := Rl.cells) (Q := fun _ => True) (by omega) Tryz.underlying65 (by kernel_rfl) (fun n cs x h1 h2 => el_rl h1 h2) a4
  obtain ⟨z5, g5⟩ := some_atE hyl (show 5 < _ by decide)
  have a5 : DataW.trod enc Tryz.prog w 0 (fun _ => true) true n 66 ((cs.drop 5).take (Tryz.prog.cellsOf 66)) = some z5 := (hfs 5 _ rfl).trans g5
  rw [k2, take_oneE (by omega)] at a5
  obtain ⟨l5, A5, d5, e5, s5, q5, _, _⟩ := open_slG (m := 2) (en := Gp.cells) (Q := fun _ => True) (by omega) Tryz.underlying66 (by kernel_rfl) (fun n cs x h1 h2 => el_gp h1 h2) a5
  match cs, hc with
  | [x0, x1, x2, x3, x4, x5], _ =>
    simp at e0 e1 e2 e3 e4 e5
    subst e0 e1 e2 e3 e4 e5
    exact ⟨⟨_, _, y2, y3, _, _, l0, l1, l4, l5⟩, ⟨⟨s0, s1, s4, s5⟩, A0, d0, rfl, q0⟩, rfl⟩
set_option maxRecDepth 100000 in
theorem open_tt {v : Value} {d : DataW H} {p : List MemPlace} (hv : Value.okWide Tryz.prog w r base 24 v) (h : DataW.Trod enc Tryz.prog w 0 (fun _ => true) true 24 v d p) :
    ∃ (l : List Lx) (x : Int × Value), v = ttV x.1 x.2 ∧ SlX w w.heap.size x.2 l ∧ capX l := by
  obtain ⟨fuel, hf⟩ := h
  obtain ⟨ys, n, _, _, hlen, hyl, hfs⟩ := DataW.trod_struct Tryz.underlying24 hf
  have c0 : Tryz.prog.cellsOf 3 = 1 := by kernel_rfl
  have k0 : Tryz.prog.cellsOf 22 = 1 := by kernel_rfl
  have hag : ∃ cs, v = .agg cs ∧ cs.size = 2 := by
    simp only [Value.okWide, Tryz.underlying24] at hv
    obtain ⟨cs, h1, h2, _⟩ := hv
    exact ⟨cs, h1, h2.trans (by kernel_rfl)⟩
  obtain ⟨⟨cs⟩, rfl, hs⟩ := hag
  have hs5 : cs.length = 2 := by simpa using hs
  obtain ⟨z0, g0⟩ := some_atE hyl (show 0 < _ by decide)
  obtain ⟨z1, g1⟩ := some_atE hyl (show 1 < _ by decide)
  have a0 : DataW.trod enc Tryz.prog w 0 (fun _ => true) true n 3 ((cs.drop 0).take (Tryz.prog.cellsOf 3)) = some z0 := (hfs 0 _ rfl).trans g0
  rw [c0, take_oneE (by omega)] at a0
  obtain ⟨y0, e0, _, _⟩ := DataW.trod_int Tryz.underlying3 a0
  have a1 : DataW.trod enc Tryz.prog w 0 (fun _ => true) true n 22 ((cs.drop 1).take (Tryz.prog.cellsOf 22)) = some z1 := (hfs 1 _ rfl).trans g1
  rw [k0, take_oneE (by omega)] at a1
  obtain ⟨l, A, c, e1, s, _, _, q⟩ := open_slG (m := 6) (en := Lx.cells) (Q := Lx.okC w) (by omega) Tryz.underlying22 (by kernel_rfl) (fun n cs x h1 h2 => el_line h1 h2) a1
  match cs, hs5 with
  | [x0, x1], _ =>
    simp at e0 e1
    subst e0 e1
    exact ⟨l, (y0, _), rfl, ⟨s, fun i hi => (q i hi).1⟩, fun i hi => (q i hi).2⟩
end
end Go.Proofs.YthckledagggoiaaGreatDoor
