import Derived.Test.YtlenfjpogmmfhaaOpen
import Derived.Test.YtlenfjpogmmfhaaSane47
namespace Go.Proofs.Ytlenfjpogmmfhaa
open Go.RowKit Go.WideShapes Go.ChangeShapes Go.Deep Fk
section
variable {H : Type} {enc : TypeId × Value → H} {w : World} {base : Nat} {r : Reach}
def wfI (n : Int) : Prop := (Lit.int .i64 n).wf = true
theorem open_sl_int {v : Value} {d : DataW H} {p : List MemPlace} (hv : Value.okWide Try.prog w r base 39 v) (h : DataW.Trod enc Try.prog w 0 (fun _ => true) true 39 v d p) :
    ∃ l : List Int, SlI w w.heap.size v l ∧ ∀ i, i < l.length → wfI (l.getD i default) := by
  obtain ⟨a, len, cap, rfl⟩ := okWide_slice Try.underlying39 hv
  obtain ⟨fuel, hf⟩ := h
  rw [cells_slice] at hf
  rcases open_ints Try.underlying39 Try.underlying3 (by kernel_rfl) hf with ⟨hcs, _⟩ | ⟨a', len', cap', zs, hcs, _, hl, hm, hz, _, hcell, hwf⟩
  · obtain ⟨rfl, rfl, rfl⟩ : a = none ∧ len = 0 ∧ cap = 0 := by simpa using hcs
    exact ⟨[], SlG.nil_ _ _, fun i hi => absurd hi (by simp)⟩
  · obtain ⟨rfl, rfl, rfl⟩ : a = some a' ∧ len = len' ∧ cap = cap' := by simpa using hcs
    simp only [if_true] at hz
    refine sl_of_cells (m := 1) (en := encI) (Q := wfI) (by omega) (by unfold maxLen at hm; omega) (fun i hi => ⟨zs.getD i 0, ?_, fun j hj => ?_⟩)
    · refine hwf _ ?_
      rw [List.getD_eq_getElem?_getD, List.getElem?_eq_getElem (by omega)]
      exact List.getElem_mem _
    · obtain rfl : j = 0 := by omega
      rw [Nat.mul_one, Nat.add_zero]
      exact hcell i (by omega)
theorem open_sl_ep {v : Value} {d : DataW H} {p : List MemPlace} (hv : Value.okWide Try.prog w r base 34 v) (h : DataW.Trod enc Try.prog w 0 (fun _ => true) true 34 v d p) :
    ∃ l : List Ep, SlEp w w.heap.size v l ∧ ∀ i, i < l.length → wfI (l.getD i default).o ∧ wfI (l.getD i default).f ∧ wfI (l.getD i default).k := by
  obtain ⟨a, len, cap, rfl⟩ := okWide_slice Try.underlying34 hv
  obtain ⟨fuel, hf⟩ := h
  rw [cells_slice] at hf
  rcases open_slice_fields Try.underlying34 Try.underlying50 (by kernel_rfl) (by kernel_rfl) hf with hcs | ⟨a', len', cap', hcs, hl, hm, hi⟩
  · obtain ⟨rfl, rfl, rfl⟩ : a = none ∧ len = 0 ∧ cap = 0 := by simpa using hcs
    exact ⟨[], SlG.ep (SlG.nil_ _ _), fun i hi => absurd hi (by simp)⟩
  · obtain ⟨rfl, rfl, rfl⟩ : a = some a' ∧ len = len' ∧ cap = cap' := by simpa using hcs
    suffices hs : ∃ l : List Ep, SlG 3 encEp w w.heap.size (.slice (some a') len cap) l ∧ ∀ i, i < l.length → wfI (l.getD i default).o ∧ wfI (l.getD i default).f ∧ wfI (l.getD i default).k by
      obtain ⟨l, h1, h2⟩ := hs
      exact ⟨l, SlG.ep h1, h2⟩
    refine sl_of_cells (m := 3) (en := encEp) (Q := fun x => wfI x.o ∧ wfI x.f ∧ wfI x.k) (by omega) (by unfold maxLen at hm; omega) (fun i hil => ?_)
    obtain ⟨v0, y0, n0, c0, t0⟩ := hi i hil 0 _ rfl
    obtain ⟨v1, y1, n1, c1, t1⟩ := hi i hil 1 _ rfl
    obtain ⟨v2, y2, n2, c2, t2⟩ := hi i hil 2 _ rfl
    obtain ⟨z0, e0, _, w0⟩ := DataW.trod_int Try.underlying3 t0
    obtain ⟨z1, e1, _, w1⟩ := DataW.trod_int Try.underlying3 t1
    obtain ⟨z2, e2, _, w2⟩ := DataW.trod_int Try.underlying3 t2
    injection e0 with e0; injection e1 with e1; injection e2 with e2
    subst e0 e1 e2
    refine ⟨⟨z0, z1, z2⟩, ⟨w0, w1, w2⟩, fun j hj => ?_⟩
    rcases (show j = 0 ∨ j = 1 ∨ j = 2 by omega) with rfl | rfl | rfl
    · exact c0
    · exact c1
    · exact c2
theorem open_sl_sh {v : Value} {d : DataW H} {p : List MemPlace} (hv : Value.okWide Try.prog w r base 40 v) (h : DataW.Trod enc Try.prog w 0 (fun _ => true) true 40 v d p) :
    ∃ l : List Sh, SlSh w w.heap.size v l ∧ ∀ i, i < l.length → wfI (l.getD i default).a ∧ wfI (l.getD i default).v := by
  obtain ⟨a, len, cap, rfl⟩ := okWide_slice Try.underlying40 hv
  obtain ⟨fuel, hf⟩ := h
  rw [cells_slice] at hf
  rcases open_slice_fields Try.underlying40 Try.underlying55 (by kernel_rfl) (by kernel_rfl) hf with hcs | ⟨a', len', cap', hcs, hl, hm, hi⟩
  · obtain ⟨rfl, rfl, rfl⟩ : a = none ∧ len = 0 ∧ cap = 0 := by simpa using hcs
    exact ⟨[], SlG.nil_ _ _, fun i hi => absurd hi (by simp)⟩
  · obtain ⟨rfl, rfl, rfl⟩ : a = some a' ∧ len = len' ∧ cap = cap' := by simpa using hcs
    refine sl_of_cells (m := 2) (en := encSh) (Q := fun x => wfI x.a ∧ wfI x.v) (by omega) (by unfold maxLen at hm; omega) (fun i hil => ?_)
    obtain ⟨v0, y0, n0, c0, t0⟩ := hi i hil 0 _ rfl
    obtain ⟨v1, y1, n1, c1, t1⟩ := hi i hil 1 _ rfl
    obtain ⟨z0, e0, _, w0⟩ := DataW.trod_int Try.underlying3 t0
    obtain ⟨z1, e1, _, w1⟩ := DataW.trod_int Try.underlying3 t1
    injection e0 with e0; injection e1 with e1
    subst e0 e1
    refine ⟨⟨z0, z1⟩, ⟨w0, w1⟩, fun j hj => ?_⟩
    rcases (show j = 0 ∨ j = 1 by omega) with rfl | rfl
    · exact c0
    · exact c1
end
end Go.Proofs.Ytlenfjpogmmfhaa
