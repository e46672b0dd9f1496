import Derived.Test.YthckledagggoiaaGreatDoorZPh
import Derived.Test.YthckledagggoiaaGreatDoorZMg
set_option linter.unusedSimpArgs false
set_option linter.unusedVariables false
namespace Go.Proofs.YthckledagggoiaaGreatDoor
open Go.RowKit Go.WideShapes Go.ChangeShapes Go.ChangeMaps Go.Deep Fk Sha
/-! Lists of entries as arguments. -/
section
variable {H : Type} {enc : TypeId × Value → H} {P : Program} {w : World} {base base' : Nat} {r : Reach} {sp : Nat → Bool} {held : Bool}
theorem some_atE {α : Type} {l : List α} {n i : Nat} (h : l.length = n) (hi : i < n) : ∃ x, l[i]? = some x := ⟨l[i]'(by omega), List.getElem?_eq_getElem (by omega)⟩
theorem take_oneE {cs : List Value} {i : Nat} (h : i < cs.length) : (cs.drop i).take 1 = [cs[i]] := by
  rw [List.drop_eq_getElem_cons h]; rfl
/-- a slice whose elements' cells are read as values of a type -/
theorem open_slG {α : Type} [Inhabited α] {m : Nat} {en : α → List Value} {Q : α → Prop} {s t : TypeId} {cs : List Value} {fuel : Nat} {x : DataW H × List MemPlace} (hm : 0 < m) (hs : P.underlying s = some (.slice t)) (hct : P.cellsOf t = m)
    (hel : ∀ (n : Nat) (cs : List Value) (x : DataW H × List MemPlace), cs.length = m → DataW.trod enc P w base sp true n t cs = some x → ∃ a : α, Q a ∧ cs = en a)
    (h : DataW.trod enc P w base sp true fuel s cs = some x) :
    ∃ (l : List α) (A : Option Addr) (c : Nat), cs = [.slice A l.length c] ∧ SlG m en w w.heap.size (.slice A l.length c) l ∧ l.length ≤ c ∧ c ≤ maxLen ∧ ∀ i, i < l.length → Q (l.getD i default) := by
  rcases open_slice hs h with h0 | ⟨a, len, cap, m2, n, D, Pl, hcs, hb, hl, hmx, hmm, hx, hi⟩
  · exact ⟨[], none, 0, h0.1, SlG.nil_ _ _, Nat.le_refl _, by unfold maxLen; omega, fun i hi => absurd hi (by simp)⟩
  · have hlm : len ≤ 9223372036854775807 := by unfold maxLen at hmx; omega
    obtain ⟨l, h1, h2⟩ := sl_of_cells (m := m) (en := en) (a := a) (len := len) (cap := cap) (w := w) (Q := Q) hm hlm (fun i hil => by
      obtain ⟨cs', hc, ht'⟩ := hi i (by rw [hmm]; split <;> omega)
      rw [hct] at hc
      obtain ⟨_, hcl, hat⟩ := World.cells?_some hc
      obtain ⟨y, hq, rfl⟩ := hel _ _ _ hcl ht'
      refine ⟨y, hq, fun j hj => ?_⟩
      rw [← Go.Deep.add_add, hat j hj, List.getElem?_eq_getElem (by omega), List.getD_eq_getElem?_getD, List.getElem?_eq_getElem (by omega)]
      rfl)
    obtain rfl : len = l.length := by obtain ⟨_, _, _, hv, _⟩ := h1; injection hv
    exact ⟨l, some a, cap, hcs, h1, hl, hmx, h2⟩
end
section
variable {H : Type} {enc : TypeId × Value → H} {w : World} {base : Nat} {r : Reach}
set_option maxRecDepth 100000 in
theorem el_en {n : Nat} {cs : List Value} {x : DataW H × List MemPlace} (hc : cs.length = 8) (h : DataW.trod enc Tryz.prog w 0 (fun _ => true) true n 49 cs = some x) : ∃ a : En, True ∧ cs = En.cells a := by
  obtain ⟨ys, n, _, _, hlen, hyl, hfs⟩ := DataW.trod_struct Tryz.underlying49 h
  have c0 : Tryz.prog.cellsOf 3 = 1 := by kernel_rfl
  obtain ⟨z0, g0⟩ := some_atE hyl (show 0 < _ by decide)
  have a0 : DataW.trod enc Tryz.prog w 0 (fun _ => true) true n 3 ((cs.drop 0).take (Tryz.prog.cellsOf 3)) = some z0 := (hfs 0 _ rfl).trans g0
  rw [c0, take_oneE (by omega)] at a0
  obtain ⟨y0, e0, _, _⟩ := DataW.trod_int Tryz.underlying3 a0
  obtain ⟨z1, g1⟩ := some_atE hyl (show 1 < _ by decide)
  have a1 : DataW.trod enc Tryz.prog w 0 (fun _ => true) true n 3 ((cs.drop 1).take (Tryz.prog.cellsOf 3)) = some z1 := (hfs 1 _ rfl).trans g1
  rw [c0, take_oneE (by omega)] at a1
  obtain ⟨y1, e1, _, _⟩ := DataW.trod_int Tryz.underlying3 a1
  obtain ⟨z2, g2⟩ := some_atE hyl (show 2 < _ by decide)
  have a2 : DataW.trod enc Tryz.prog w 0 (fun _ => true) true n 3 ((cs.drop 2).take (Tryz.prog.cellsOf 3)) = some z2 := (hfs 2 _ rfl).trans g2
  rw [c0, take_oneE (by omega)] at a2
  obtain ⟨y2, e2, _, _⟩ := DataW.trod_int Tryz.underlying3 a2
  obtain ⟨z3, g3⟩ := some_atE hyl (show 3 < _ by decide)
  have a3 : DataW.trod enc Tryz.prog w 0 (fun _ => true) true n 3 ((cs.drop 3).take (Tryz.prog.cellsOf 3)) = some z3 := (hfs 3 _ rfl).trans g3
  rw [c0, take_oneE (by omega)] at a3
  obtain ⟨y3, e3, _, _⟩ := DataW.trod_int Tryz.underlying3 a3
  obtain ⟨z4, g4⟩ := some_atE hyl (show 4 < _ by decide)
  have a4 : DataW.trod enc Tryz.prog w 0 (fun _ => true) true n 3 ((cs.drop 4).take (Tryz.prog.cellsOf 3)) = some z4 := (hfs 4 _ rfl).trans g4
  rw [c0, take_oneE (by omega)] at a4
  obtain ⟨y4, e4, _, _⟩ := DataW.trod_int Tryz.underlying3 a4
  obtain ⟨z5, g5⟩ := some_atE hyl (show 5 < _ by decide)
  have a5 : DataW.trod enc Tryz.prog w 0 (fun _ => true) true n 3 ((cs.drop 5).take (Tryz.prog.cellsOf 3)) = some z5 := (hfs 5 _ rfl).trans g5
  rw [c0, take_oneE (by omega)] at a5
  obtain ⟨y5, e5, _, _⟩ := DataW.trod_int Tryz.underlying3 a5
  obtain ⟨z6, g6⟩ := some_atE hyl (show 6 < _ by decide)
  have a6 : DataW.trod enc Tryz.prog w 0 (fun _ => true) true n 3 ((cs.drop 6).take (Tryz.prog.cellsOf 3)) = some z6 := (hfs 6 _ rfl).trans g6
  rw [c0, take_oneE (by omega)] at a6
  obtain ⟨y6, e6, _, _⟩ := DataW.trod_int Tryz.underlying3 a6
  obtain ⟨z7, g7⟩ := some_atE hyl (show 7 < _ by decide)
  have a7 : DataW.trod enc Tryz.prog w 0 (fun _ => true) true n 3 ((cs.drop 7).take (Tryz.prog.cellsOf 3)) = some z7 := (hfs 7 _ rfl).trans g7
  rw [c0, take_oneE (by omega)] at a7
  obtain ⟨y7, e7, _, _⟩ := DataW.trod_int Tryz.underlying3 a7
  match cs, hc with
  | [x0, x1, x2, x3, x4, x5, x6, x7], _ =>
    simp at e0 e1 e2 e3 e4 e5 e6 e7
    subst e0 e1 e2 e3 e4 e5 e6 e7
    exact ⟨⟨y0, y1, y2, y3, y4, y5, y6, y7⟩, trivial, rfl⟩
set_option maxRecDepth 100000 in
theorem open_en {v : Value} {d : DataW H} {p : List MemPlace} (hv : Value.okWide Tryz.prog w r base 26 v) (h : DataW.Trod enc Tryz.prog w 0 (fun _ => true) true 26 v d p) :
    ∃ l : List En, SlE w w.heap.size v l ∧ True := by
  obtain ⟨a, len, cap, rfl⟩ := okWide_slice Tryz.underlying26 hv
  obtain ⟨fuel, hf⟩ := h
  rw [cells_slice] at hf
  obtain ⟨l, A, c, e, s, _, _, q⟩ := open_slG (m := 8) (en := En.cells) (Q := fun _ => True) (by omega) Tryz.underlying26 (by kernel_rfl) (fun n cs x h1 h2 => el_en h1 h2) hf
  obtain ⟨rfl, rfl, rfl⟩ : a = A ∧ len = l.length ∧ cap = c := by simpa using e
  exact ⟨l, s, trivial⟩
end
end Go.Proofs.YthckledagggoiaaGreatDoor
