import Derived.Test.YtaheibbbdglcmaaDoorRows
import Derived.Test.YtaheibbbdglcmaaDoorDg3
import Derived.LaidMore
import Derived.OpenShut
import Derived.Stop.Joined
import Derived.ProofKit
namespace Go.Proofs.YtaheibbbdglcmaaDoor
open Go.ChangeShapes Go.WideShapes Go.RowKit Go.WideElems Fk Sha
/-! What the listed tables give. -/
theorem ints_of {enc : TypeId × Value → Unit} {P : Program} {W : World} {base : Nat} {spare : Nat → Bool} {held : Bool} {fuel n : Nat} {t e : TypeId} {k : IntKind} {cs : List Value} {D : List (DataW Unit)} {p : List MemPlace} (ht : P.underlying t = some (.array n e)) (he : P.underlying e = some (.int k)) (hc : P.cellsOf e = 1)
    (h : DataW.trod enc P W base spare held fuel t cs = some (.agg D, p)) {i : Nat} (hi : i < n) : ∃ x : Int, cs[i]? = some (.int k x) ∧ D[i]? = some (.lit (.int k x)) := by
  obtain ⟨xs, m, _, hx, _, hl, hel⟩ := DataW.trod_array ht h
  have h1 := hel i hi
  rw [hc, Nat.mul_one] at h1
  obtain ⟨y, hy⟩ : ∃ y, xs[i]? = some y := ⟨_, List.getElem?_eq_getElem (by omega)⟩
  obtain ⟨x, e1, e2, _⟩ := DataW.trod_int he (h1.trans hy)
  refine ⟨x, ?_, ?_⟩
  · have := congrArg (fun l : List Value => l[0]?) e1
    simp only [List.getElem?_take, List.getElem?_drop] at this
    simpa using this
  · simp only [Prod.mk.injEq, DataW.agg.injEq] at hx
    rw [hx.1, List.getElem?_map, hy, Option.map_some, e2]
theorem gStart : Tryd.prog.globalNamed "franking/digest.start" = some 0 := by kernel_rfl
theorem gNumbers : Tryd.prog.globalNamed "franking/digest.numbers" = some 1 := by kernel_rfl
theorem tStart : (Tryd.prog.globals[0]?).map (·.type) = some 94 := by kernel_rfl
theorem tNumbers : (Tryd.prog.globals[1]?).map (·.type) = some 117 := by kernel_rfl
theorem dStart : (Rows.laid_franking_digest_start : DataW Unit) = .agg (startS.list.map fun x => .lit (.int .u32 (x.toNat : Int))) := by kernel_rfl
theorem dNumbers : (Rows.laid_franking_digest_numbers : DataW Unit) = .agg (numbersL.map fun x => .lit (.int .u32 (x.toNat : Int))) := by kernel_rfl
theorem tab_laid {W : World} (h : laidMetH Tryd.prog [("franking/digest.start", Rows.laid_franking_digest_start), ("franking/digest.numbers", Rows.laid_franking_digest_numbers)] W) : Tab W ∧ (1 < W.heap.size ∧ 0 < W.heap.size) := by
  rw [MakeChecks.laidMetH_plain _ _ _ (by kernel_rfl)] at h
  obtain ⟨ps, ⟨g0, t0, cs0, f0, p0, q0, hg0, ht0, hv0, hd0, ⟨g1, t1, cs1, f1, p1, q1, hg1, ht1, hv1, hd1, _, _⟩, _⟩, _, _⟩ := h
  obtain rfl := Option.some.inj (gStart.symm.trans hg0)
  obtain rfl := Option.some.inj (gNumbers.symm.trans hg1)
  obtain rfl := Option.some.inj (tStart.symm.trans ht0)
  obtain rfl := Option.some.inj (tNumbers.symm.trans ht1)
  rw [dStart] at hd0
  rw [dNumbers] at hd1
  have k1 : ∀ i, i < 64 → W.cell? ⟨1, i, none⟩ = some (u (numbersL.getD i 0)) := by
    intro i hi
    obtain ⟨x, e1, e2⟩ := ints_of Tryd.underlying117 Tryd.underlying93 (by kernel_rfl) hd1 hi
    have hl : i < numbersL.length := hi
    rw [List.getElem?_map, List.getElem?_eq_getElem hl] at e2
    have e3 : un (numbersL.getD i 0) = x := by
      rw [List.getD_eq_getElem?_getD, List.getElem?_eq_getElem hl]
      simp only [Option.map_some, Option.some.injEq, DataW.lit.injEq, Lit.int.injEq, true_and] at e2
      exact e2
    have := World.var?_cell hg1 hv1 i
    rw [this]
    unfold u
    rw [e3]
    simpa using e1
  have k2 : ∀ i, i < 8 → W.cell? ⟨0, i, none⟩ = some (u (startS.list.getD i 0)) := by
    intro i hi
    obtain ⟨x, e1, e2⟩ := ints_of Tryd.underlying94 Tryd.underlying93 (by kernel_rfl) hd0 hi
    have hl : i < startS.list.length := hi
    rw [List.getElem?_map, List.getElem?_eq_getElem hl] at e2
    have e3 : un (startS.list.getD i 0) = x := by
      rw [List.getD_eq_getElem?_getD, List.getElem?_eq_getElem hl]
      simp only [Option.map_some, Option.some.injEq, DataW.lit.injEq, Lit.int.injEq, true_and] at e2
      exact e2
    have := World.var?_cell hg0 hv0 i
    rw [this]
    unfold u
    rw [e3]
    simpa using e1
  exact ⟨⟨k1, k2⟩, World.block_lt_of_cell? W _ (k1 0 (by omega)), World.block_lt_of_cell? W _ (k2 0 (by omega))⟩
end Go.Proofs.YtaheibbbdglcmaaDoor
